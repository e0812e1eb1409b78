/- Lemmas and contracts on the way to the statement; no condition of their own beyond those written. -/
import Derived.Test.YtpedbljnhnoohaaGreatXVntoWm
import Derived.RangeFuncWrites
import Derived.RangeFuncNested
import Derived.Sort.CutIn
import Derived.Lib.ConvBytes
import Derived.OrdersIn
import Derived.TacticsIn
import Derived.ChangeKeysEq
import Derived.Laws.Cells
import Derived.Laws.Rows
import Derived.Laws.Tables
import Derived.Deep.WholeRow
import Derived.Deep.LoopGhost
import Derived.Lib.SlicesSearch
set_option linter.unusedVariables false
set_option linter.unusedSimpArgs false
set_option maxRecDepth 100000
set_option maxHeartbeats 8000000
variable {n B N L D tc j tb base tf n₀ bytes:Nat} {v rv ov z v1 v2 xv u1 yv u2 cv tv:Go.Value} {W w' W' X w0 W0:Go.World} {F M F' F0 Fk:Nat->Prop} {O gs A LL:List (List Nat)} {ll OO PS:List (List Int)} {R:List (List (List Nat))} {RR gl:List (List (List Int))} {H:List Nat->Prop} {d ck:Int} {xs:List Go.Value} {xl l1 l2:List Int}
namespace Go.Proofs.YtpedbljnhnoohaaGreat
open Go.RowKit
open Go.Proofs
section
open Go.Proofs.Cm (Tr dg)
attribute [local irreducible] Go.Calls Go.wpList
theorem Rc (args:Array Value) (w:World):(callFunc 66 args).run Tryz.prog w=.ok (.enter 66 args) w:=by kernel_rfl
theorem Kg (args:Array Value) (w:World):(callFunc 165 args).run Tryz.prog w=.ok (.enter 165 args) w:=by kernel_rfl
theorem Kh (args:Array Value) (w:World):(callFunc 36 args).run Tryz.prog w=.ok (.enter 36 args) w:=by kernel_rfl
theorem g_.up {l:List Int} (h:g_ B W v l) (hb:BE W W'):g_ B W' v l:=h.p hb
theorem g_.at {a:Option Addr} {m c:Nat} {l:List Nat} (h:g_ B W (.slice a m c) (Ma.ah l)) {k:Nat} (hk:k<l.length):∃ g,a=some ⟨g,0,none⟩/\CL W g (0+k) (.int .i64 ((l[k]:Nat):Int)):=by
 obtain ⟨g,c',u,e1,e2,e3,e4⟩:=jh h.own (k:=k) (by rw [Ma.aB]; exact hk)
 injection e1 with e1 _ _
 refine ⟨g,e1,?_,e4⟩;rw [e2,<- e3];simp [Ma.ah,List.getElem?_eq_getElem hk]
theorem U6 {gs:List Nat->Prop} {tr:Tr} (h:dg n gs tr) {i p:Nat} {u:List Nat} (h1:tr i p=some u):i<=p:=by
 have hne:p≠i:=fun e=>by subst e; rw [h.diag] at h1; cases h1
 have hid:Cm.cL n tr i p=some u:=by rw [Cm.cP hne]; exact h1
 have hi:=(h.lt i p u h1).1;have hp:=(h.lt i p u h1).2;refine Nat.le_of_not_lt fun az=>hne ?_;have a1:=h.rp.at_ i p u (Nat.zero_le _) hi hid;have a2:=h.rp.fx i p u (Nat.zero_le _) hi hid p az;exact Cm.kN (h.rp.gd i p u (Nat.zero_le _) hi hid) hp hi (a2.trans a1.symm)
theorem wY {gs:List Nat->Prop} {tr:Tr} (h:dg n gs tr) {i p:Nat} (hi:i<n):p∈pW n tr i↔∃ u,Cm.cL n tr i p=some u:=by
 unfold pW;rw [Oq]
 constructor
 ·rintro ⟨h1,h2,h3⟩
  by_cases e:p=i
  ·subst e; exact ⟨_,Cm.cZ⟩
  ·rw [Cm.cP e]
   rcases h3 with h3 | h3
   ·exact absurd h3 e
   ·exact Option.isSome_iff_exists.1 h3
 ·rintro ⟨u,hu⟩
  by_cases e:p=i
  ·subst e; exact ⟨hi,Nat.le_refl _,.inl rfl⟩
  ·rw [Cm.cP e] at hu
   exact ⟨(h.lt i p u hu).2,U6 h hu,.inr (by rw [hu]; rfl)⟩
def Eg (w:World) (n i:Nat) (H:List Nat->Prop) (u:List Nat) (e:Ending) (w':World):Prop:=∃ v y B,e=.returned v/\w.heap.size<=B/\w'.ownsRow B 3 1 v (Ma.ah y).length ((Ma.ah y).map (Value.int .i64))/\Cm.LI H i n u y/\Cm.Gd n y/\BE w w'
theorem G9 (aU:1<=n) (aZ:n<=64) {w:World} {tr:Tr} {Rb:Nat->Nat} {V:Nat->Nat->Value} (hT:cy F0 tb tf n w tr Rb V) {gs:List Nat->Prop} (hg:∀ s,gs s->Cm.Gd n s) (BA:dg n gs tr) (dJ:Cm.mj n (Cm.Gr n gs) (Cm.cL n tr)) {i p:Nat} (hi:i<n) {u:List Nat} (hu:Cm.cL n tr i p=some u) :
  Calls Tryz.prog 166 #[.slice (some ⟨tb,tf,none⟩) n tc,.int .i64 ((i:Nat):Int),.int .i64 ((p:Nat):Int)] w (Eg w n i (Cm.Gr n gs) u):=by
 have HT:=U hT;have HH:=U (Cm.Gr.dE hg);have OK:=U BA;have p9:=U dJ;have bN:=U hi;have HU:=U hu;have Re:=U (BA.rp.gd i p u (Nat.zero_le _) hi hu);have oD:=U (Cm.LI.start (Cm.Gr.dE hg) hi Re.u);have CO:=U (hT.u i hi);have K:=U (KG.refl hT.eP);have KB:=U (bi w)
 have D2:p<n:=by
  by_cases e:p=i
  ·omega
  ·rw [Cm.cP e] at hu; exact (BA.lt i p u hu).2
 have zR:=U D2;have CE:=U (CL.mk (show w.cell? ⟨Rb i,0+p,none⟩=some (V i p) by rw [Nat.zero_add]; exact hT.cell hi D2) (hT.lt hi));clear hT hg BA dJ hu
 go_enter Tryz.func166,Tryz.ntmps166
 go_upto_region 1 with fail;refine c6<|j8 rfl<|k8 (g9 Tryz.underlying180) ?_;go_frame;refine f4 14 (aA 66 _ _ rfl rfl (Rc _ _)) ?_;refine (xH n w (by omega)).mono ?_;rintro e1 w1 ⟨ov,rfl,vh,hb⟩;replace KB:=U (Rg.acc KB.u hb);refine ⟨_,rfl,?_⟩;go_frame;replace HT:=U (HT.u.up hb);replace CO:=U (CO.u.up hb);replace CE:=U (CE.u.up hb);replace K:=U (K.u.up hb);have XO:=U (FP.new (F:=F0) vh);generalize cE F0 w w1=F1 at *;clear hb;refine j6 (ov) rfl ?_;go_frame;clear vh
 by_cases U7:p=i
 ·have aaO:(p:Int)=(i:Int):=by omega
  have XV:=U (show FP F1 w1 ov u by
   have:=HU.u;subst U7;rw [Cm.cZ] at this
   injection this with this
   rw [<- this]; exact XO.u)
  clear U7 XO CO CE;go_upto_region 2 with fail;refine c6<|j7 rfl<|j7 rfl<|k8 (g8 (.bool false) .neq (h:=aE _ f8)) ?_;go_frame;go_wp2
  go_loopw [8,7] (fun kv yv wr=>∃ (k:Nat) (y:List Nat) (F1:Nat->Prop),kv=.int .i64 k/\i<k/\k<=n/\Hid (FP F1 wr yv y)/\Hid (cy F1 tb tf n wr tr Rb V)/\Hid (KG F0 w F1 wr)/\Hid (BE w wr)/\Hid (Cm.Gd n y)/\Hid (Cm.LI (Cm.Gr n gs) i k u y)) (fun kv _ _=>n - (intOf kv).toNat)
  case atStart=>exact ⟨i+1,u,_,by go_num,Nat.lt_succ_self _,bN.u,XV,HT,K,KB,Re,oD⟩
  case round =>
   clear XV HT K KB oD;obtain ⟨k,y,F,rfl,gO,dF,X,HT,K,KB,GY,oD⟩:=hrel;obtain ⟨yb,yo,yc,rfl⟩:=X.u.du GY.u aU
   by_cases b_:k<n
   ·have gY:(k:Int)<(n:Int):=by omega
    have ba:=U b_;go_upto_region 7 with fail;refine c6<|j8 rfl<|j7 rfl ?_;go_frame;refine f4 35 (ax 165 _ _ _ rfl rfl rfl (Kg _ _)) ?_;refine (tL aU aZ HT.u (fun i p u e=>iI OK.u e) ba.u).mono ?_;rintro e1 w1 ⟨Ki,rfl,vh,hb⟩;replace KB:=U (Rg.acc KB.u hb);refine ⟨_,rfl,?_⟩;go_frame;replace HT:=U (HT.u.up hb);replace X:=U (X.u.up hb);replace K:=U (K.u.up hb);have RO:=U vh;generalize cE F wr w1=F1 at *;clear hb;refine j6 (Ki) rfl ?_;go_frame;clear vh;obtain ⟨oa,oc,dG⟩:=RO.u.shape;rw [Ma.aB] at dG;subst dG;have Kj:=U (fun q=>wY (p:=q) OK.u ba.u);have sr:=U (rS tr k n);obtain ⟨O,hO⟩:∃ O,Hid (pW n tr k=O):=⟨_,U rfl⟩;have Kk:=sr.u;rw [show eh tr k n=O from hO.u] at Kk;replace sr:=U Kk;rw [hO.u] at RO Kj ⊢;obtain ⟨B9,G7⟩:∃ B,Hid (wr.heap.size=B):=⟨_,U rfl⟩;rw [G7.u] at RO;clear Kk hO G7;have lC:=U (show ∀ m (h:m<O.length),m<0->Cm.ap y k<=Cm.ap y O[m] from fun m _ h=>absurd h (Nat.not_lt_zero _));have oG:=U (show ∃ v,Cm.cL n tr k k=some v from ⟨_,Cm.cZ⟩);go_wp2
    go_loopw [10,11] (fun bv iv wr=>∃ (b m:Nat) (F1:Nat->Prop),bv=.int .i64 b/\iv=.int .i64 m/\m<=O.length/\b<n/\Hid (FP F1 wr (.slice (some ⟨yb,yo,none⟩) n yc) y)/\Hid (cy F1 tb tf n wr tr Rb V)/\Hid (g_ B9 wr (.slice oa O.length oc) (Ma.ah O))/\Hid (KG F0 w F1 wr)/\Hid (BE w wr)/\Hid (∃ v,Cm.cL n tr k b=some v)/\Hid (∀ m' (h:m' < O.length),m' < m->Cm.ap y b<=Cm.ap y O[m'])) (fun _ iv _=>O.length - (intOf iv).toNat)
    case atStart=>exact ⟨k,0,_,rfl,rfl,Nat.zero_le _,ba.u,X,HT,RO,K,KB,oG,lC⟩
    case round =>
     clear X HT RO K KB oG lC;obtain ⟨b,m,F,rfl,rfl,hm,p_,X,HT,RO,K,KB,oG,lC⟩:=hrel
     have Of:(O.length:Int)<=64:=by have:=sr.u; omega
     by_cases gB:m<O.length
     ·have uX:(m:Int)<(O.length:Int):=by omega
      obtain ⟨og,rfl,Kl⟩:=RO.u.at gB;obtain ⟨q,hq⟩:∃ q:Nat,Hid (q=O[m]):=⟨_,U rfl⟩;rw [<- hq.u] at Kl;have CQ:=U Kl;have fM:=U gB;have zS:=U p_;have zy:=U ((Kj.u q).1 (by rw [hq.u]; exact List.getElem_mem gB))
      have gP:q<n:=by
       obtain ⟨v,hv⟩:=zy.u
       by_cases e:q=k
       ·have:=ba.u; omega
       ·rw [Cm.cP e] at hv; exact (OK.u.lt k q v hv).2
      have kY:=U gP;have jP:=U (X.u.ap GY.u gP);have jQ:=U (X.u.ap GY.u p_);obtain ⟨yq,zz⟩:∃ z:Nat,Hid (z=Cm.ap y q):=⟨_,U rfl⟩;obtain ⟨qG,zA⟩:∃ z:Nat,Hid (z=Cm.ap y b):=⟨_,U rfl⟩;rw [<- zz.u] at jP;rw [<- zA.u] at jQ;clear Kl gP p_ hm
      by_cases az:yq<qG
      ·have Gt:(yq:Int)<(qG:Int):=by omega
       go_upto_region 12 with fail;have d_:BE wr wr.drew:=(Below.refl _ _).drew;replace KB:=U (Rg.acc KB.u d_);clear d_;have aj:BE wr wr.drew:=(Below.refl _ _).drew;replace HT:=U (HT.u.up aj);replace X:=U (X.u.up aj);replace RO:=U (RO.u.up aj);replace CQ:=U (CQ.u.up aj);replace jP:=U (jP.u.up aj);replace jQ:=U (jQ.u.up aj);replace K:=U (K.u.up aj);generalize cE F wr wr.drew=F1 at *;clear aj;refine Rg.Any.begin (S:=Rg.aK 11 (fun _=>True) (fun W=>Below wr.drew.heap.size wr.drew W)) mix ?_;generalize wr.drew=w1 at *;have hS:∀ (l:Array Bool) W,BE w1 W->Rg.aK 11 (fun _=>True) (fun W=>BE w1 W) l W:=fun l W h=>⟨.inr trivial,h⟩;have hI:BE w1 w1:=Below.refl _ _;refine d8 0 11 (.slice (some ⟨yb,yo,none⟩) n yc) 43 (hS _ _ hI)<|d8 1 11 (.slice (some ⟨og,0,none⟩) O.length oc) 44 (hS _ _ hI)<|d8 2 11 (.int .i64 (m:Int)) 45 (hS _ _ hI)<|d7 3 11 (.pointer (some ⟨og,0+m,none⟩)) 46 rfl rfl (Rg.ai aQ _ _ rfl rfl og (0) (O.length) oc (m) rfl rfl fM.u) (hS _ _ hI)<|d7 4 11 (.int .i64 (q:Int)) 47 rfl rfl (j2 ⟨og,0+m,none⟩ (fun W hW=>af ((Below.cell (p:=⟨og,0+m,none⟩) hW CQ.u.lt).trans CQ.u.cell))) (hS _ _ hI) ?_;go_frame;refine d7 5 11 (.pointer (some ⟨yb,yo+q,none⟩)) 48 rfl rfl (Rg.ai bC _ _ rfl rfl yb (yo) (n) yc (q) rfl rfl kY.u) (hS _ _ hI)<|d7 6 11 (.int .i64 (yq:Int)) 49 rfl rfl (j2 ⟨yb,yo+q,none⟩ (fun W hW=>af ((Below.cell (p:=⟨yb,yo+q,none⟩) hW jP.u.lt).trans jP.u.cell))) (hS _ _ hI)<|d8 7 11 (.slice (some ⟨yb,yo,none⟩) n yc) 50 (hS _ _ hI)<|d8 8 11 (.int .i64 (b:Int)) 51 (hS _ _ hI)<|d7 9 11 (.pointer (some ⟨yb,yo+b,none⟩)) 52 rfl rfl (Rg.ai bC _ _ rfl rfl yb (yo) (n) yc (b) rfl rfl zS.u) (hS _ _ hI) ?_;go_frame
       refine d7 10 11 (.int .i64 (qG:Int)) 53 rfl rfl (j2 ⟨yb,yo+b,none⟩ (fun W hW=>af ((Below.cell (p:=⟨yb,yo+b,none⟩) hW jQ.u.lt).trans jQ.u.cell))) (hS _ _ hI)<|j1 11 54 rfl rfl (g8 (.bool true) .lss (h:=aI _ f7)) (hS _ _ hI) ?_;go_frame;refine Rg.Any.done (by kernel_rfl) ?_ _;clear hS hI;go_upto_region 13 with fail;refine c6<|j8 rfl<|j7 rfl<|k8 (ag aQ _ _ rfl og (0) (O.length) oc (m) rfl rfl fM.u)<|k8 (g7 (.int .i64 (q:Int)) ⟨og,0+m,none⟩ (af CQ.u.cell)) ?_;go_frame;refine j7 rfl ?_;go_frame
       have nJ:=U (show ∀ m' (h:m' < O.length),m' < m+1->Cm.ap y q<=Cm.ap y O[m'] from fun m' h h2=>by
        have a1:=zz.u;have a2:=zA.u
        by_cases e:m'=m
        ·subst e
         rw [<- hq.u]; omega
        ·have:=lC.u m' h (by omega)
         omega)
       go_wp2;go_roundw
       case rel=>exact ⟨q,m+1,_,rfl,by go_num,fM.u,kY.u,X,HT,RO,K,KB,zy,nJ⟩
       case measure=>simp [intOf]; have:=fM.u; omega
      ·have Gt:¬ (yq:Int)<(qG:Int):=by omega
       go_upto_region 12 with fail;have d_:BE wr wr.drew:=(Below.refl _ _).drew;replace KB:=U (Rg.acc KB.u d_);clear d_;have aj:BE wr wr.drew:=(Below.refl _ _).drew;replace HT:=U (HT.u.up aj);replace X:=U (X.u.up aj);replace RO:=U (RO.u.up aj);replace CQ:=U (CQ.u.up aj);replace jP:=U (jP.u.up aj);replace jQ:=U (jQ.u.up aj);replace K:=U (K.u.up aj);generalize cE F wr wr.drew=F1 at *;clear aj;refine Rg.Any.begin (S:=Rg.aK 11 (fun _=>True) (fun W=>Below wr.drew.heap.size wr.drew W)) mix ?_;generalize wr.drew=w1 at *;have hS:∀ (l:Array Bool) W,BE w1 W->Rg.aK 11 (fun _=>True) (fun W=>BE w1 W) l W:=fun l W h=>⟨.inr trivial,h⟩;have hI:BE w1 w1:=Below.refl _ _;refine d8 0 11 (.slice (some ⟨yb,yo,none⟩) n yc) 43 (hS _ _ hI)<|d8 1 11 (.slice (some ⟨og,0,none⟩) O.length oc) 44 (hS _ _ hI)<|d8 2 11 (.int .i64 (m:Int)) 45 (hS _ _ hI)<|d7 3 11 (.pointer (some ⟨og,0+m,none⟩)) 46 rfl rfl (Rg.ai aQ _ _ rfl rfl og (0) (O.length) oc (m) rfl rfl fM.u) (hS _ _ hI)<|d7 4 11 (.int .i64 (q:Int)) 47 rfl rfl (j2 ⟨og,0+m,none⟩ (fun W hW=>af ((Below.cell (p:=⟨og,0+m,none⟩) hW CQ.u.lt).trans CQ.u.cell))) (hS _ _ hI) ?_;go_frame;refine d7 5 11 (.pointer (some ⟨yb,yo+q,none⟩)) 48 rfl rfl (Rg.ai bC _ _ rfl rfl yb (yo) (n) yc (q) rfl rfl kY.u) (hS _ _ hI)<|d7 6 11 (.int .i64 (yq:Int)) 49 rfl rfl (j2 ⟨yb,yo+q,none⟩ (fun W hW=>af ((Below.cell (p:=⟨yb,yo+q,none⟩) hW jP.u.lt).trans jP.u.cell))) (hS _ _ hI)<|d8 7 11 (.slice (some ⟨yb,yo,none⟩) n yc) 50 (hS _ _ hI)<|d8 8 11 (.int .i64 (b:Int)) 51 (hS _ _ hI)<|d7 9 11 (.pointer (some ⟨yb,yo+b,none⟩)) 52 rfl rfl (Rg.ai bC _ _ rfl rfl yb (yo) (n) yc (b) rfl rfl zS.u) (hS _ _ hI) ?_;go_frame
       refine d7 10 11 (.int .i64 (qG:Int)) 53 rfl rfl (j2 ⟨yb,yo+b,none⟩ (fun W hW=>af ((Below.cell (p:=⟨yb,yo+b,none⟩) hW jQ.u.lt).trans jQ.u.cell))) (hS _ _ hI)<|j1 11 54 rfl rfl (g8 (.bool false) .lss (h:=aI _ f8)) (hS _ _ hI) ?_;go_frame;refine Rg.Any.done (by kernel_rfl) ?_ _;clear hS hI
       have nJ:=U (show ∀ m' (h:m' < O.length),m' < m+1->Cm.ap y b<=Cm.ap y O[m'] from fun m' h h2=>by
        have a1:=zz.u;have a2:=zA.u
        by_cases e:m'=m
        ·subst e
         rw [<- hq.u]; omega
        ·have:=lC.u m' h (by omega)
         omega)
       go_wp2;go_roundw
       case rel=>exact ⟨b,m+1,_,rfl,by go_num,fM.u,zS.u,X,HT,RO,K,KB,oG,nJ⟩
       case measure=>simp [intOf]; have:=fM.u; omega
     ·obtain rfl:m=O.length:=by omega
      have uX:¬ (O.length:Int)<(O.length:Int):=by omega
      have xR:=U (show ∀ q',Cm.cL n tr k q'≠none->Cm.ap y b<=Cm.ap y q' from fun q' FM=>by
       obtain ⟨v,hv⟩:=Option.ne_none_iff_exists'.1 FM;obtain ⟨m',ou,rfl⟩:=List.getElem_of_mem ((Kj.u q').2 ⟨v,hv⟩)
       exact lC.u m' ou ou)
      obtain ⟨v,hv⟩:=oG.u;have Gu:=U (Cm.LI.step HH.u p9.u Re.u gO ba.u oD.u hv xR.u);have GV:=U (OK.u.rp.gd k b v (Nat.zero_le _) ba.u hv);have GM:=U (Cm.bm GV.u GY.u);clear xR lC oG
      by_cases nK:b=k
      ·have Qu:(b:Int)=(k:Int):=by omega
       have HE:=U (show Ma.aq v y=y by
        subst nK;rw [Cm.cZ] at hv
        injection hv with e
        rw [<- e,Cm.one_mul GY.u])
       clear nK hv;go_upto_region 14 with fail;refine c6<|j7 rfl<|j7 rfl<|k8 (g8 (.bool false) .neq (h:=aE _ f8)) ?_;go_frame;go_wp2;go_roundw
       case rel=>exact ⟨k+1,y,_,by go_num,by omega,ba.u,X,HT,K,KB,GY,U (by have:=Gu.u; rwa [HE.u] at this)⟩
       case measure=>simp [intOf]; have:=ba.u; omega
      ·have Qu:¬ (b:Int)=(k:Int):=by omega
       rw [Cm.cP nK] at hv;have zS:=U p_;have UP:=U (HT.u.some_ k b v ba.u p_ hv);have CO:=U (HT.u.u k ba.u);have CE:=U (CL.mk (show wr.cell? ⟨Rb k,0+b,none⟩=some (V k b) by rw [Nat.zero_add]; exact HT.u.cell ba.u p_) (HT.u.lt ba.u));clear nK hv;go_upto_region 14 with fail;refine c6<|j7 rfl<|j7 rfl<|k8 (g8 (.bool true) .neq (h:=aE _ f7)) ?_;go_frame;go_upto_region 15 with fail;refine c6<|j8 rfl<|j7 rfl<|k8 (ag fN _ _ rfl tb (tf) (n) tc (k) rfl rfl ba.u)<|k8 (g7 (.slice (some ⟨(Rb k),0,none⟩) n n) ⟨tb,tf+k,none⟩ (Rg.ae _ _ Tryz.underlying41 CO.u.cell)) ?_;go_frame;refine j7 rfl<|k8 (ag aM _ _ rfl (Rb k) (0) (n) n (b) rfl rfl zS.u)<|k8 (g7 ((V k b)) ⟨(Rb k),0+b,none⟩ (Rg.ae _ _ Tryz.underlying27 CE.u.cell))<|j8 rfl ?_;go_frame;refine f4 70 (ax 34 _ _ _ rfl rfl rfl (tH _ _)) ?_;refine (rQ UP.u X.u GV.u GY.u aZ).mono ?_;rintro e1 w1 ⟨mv,rfl,gX,hb⟩;replace KB:=U (Rg.acc KB.u hb);refine ⟨_,rfl,?_⟩;go_frame;replace HT:=U (HT.u.up hb);replace X:=U (X.u.up hb);replace UP:=U (UP.u.up hb);replace CO:=U (CO.u.up hb);replace CE:=U (CE.u.up hb);replace K:=U (K.u.up hb);have MV:=U gX;generalize cE F wr w1=F1 at *;clear hb;refine j6 (mv) rfl ?_;go_frame;clear gX;go_wp2;go_roundw
       case rel=>exact ⟨k+1,_,_,by go_num,by omega,ba.u,MV,HT,K,KB,GM,Gu⟩
       case measure=>simp [intOf]; have:=ba.u; omega
   ·obtain rfl:k=n:=by omega
    have gY:¬ (k:Int)<(k:Int):=by omega
    have kI:=U KB.u.size;go_upto_region 16 with fail;refine c6<|j8 rfl ?_;go_frame;refine f4 72 (aA 36 _ _ rfl rfl (Kh _ _)) ?_;refine (zD _ (Ma.ah y) wr X.u.np (by rw [Ma.aB,GY.u.2]; omega)).mono ?_;rintro e1 w1 ⟨v2,rfl,bH,hb⟩;replace KB:=U (Rg.acc KB.u hb);have mZ:=U bH;clear bH;refine ⟨_,rfl,?_⟩;go_frame;replace HT:=U (HT.u.up hb);replace X:=U (X.u.up hb);replace K:=U (K.u.up hb);generalize cE F wr w1=F1 at *;clear hb;refine j6 (v2) rfl ?_;go_frame;go_wp2;go_ret;exact (show Eg _ _ _ _ _ _ _ from ⟨_,_,_,rfl,kI.u,mZ.u,oD.u,GY.u,KB.u⟩)
 ·have aaO:¬ (p:Int)=(i:Int):=by omega
  have XV:=U (HT.u.some_ i p u bN.u zR.u (by have:=HU.u; rwa [Cm.cP U7] at this));clear U7 XO;go_upto_region 2 with fail;refine c6<|j7 rfl<|j7 rfl<|k8 (g8 (.bool true) .neq (h:=aE _ f7)) ?_;go_frame;go_upto_region 3 with fail;refine c6<|j8 rfl<|j7 rfl<|k8 (ag fN _ _ rfl tb (tf) (n) tc (i) rfl rfl bN.u)<|k8 (g7 (.slice (some ⟨(Rb i),0,none⟩) n n) ⟨tb,tf+i,none⟩ (Rg.ae _ _ Tryz.underlying41 CO.u.cell)) ?_;go_frame;refine j7 rfl<|k8 (ag aM _ _ rfl (Rb i) (0) (n) n (p) rfl rfl zR.u)<|k8 (g7 ((V i p)) ⟨(Rb i),0+p,none⟩ (Rg.ae _ _ Tryz.underlying27 CE.u.cell))<|j6 ((V i p)) rfl ?_;go_frame;clear CO CE;go_wp2
  go_loopw [8,7] (fun kv yv wr=>∃ (k:Nat) (y:List Nat) (F1:Nat->Prop),kv=.int .i64 k/\i<k/\k<=n/\Hid (FP F1 wr yv y)/\Hid (cy F1 tb tf n wr tr Rb V)/\Hid (KG F0 w F1 wr)/\Hid (BE w wr)/\Hid (Cm.Gd n y)/\Hid (Cm.LI (Cm.Gr n gs) i k u y)) (fun kv _ _=>n - (intOf kv).toNat)
  case atStart=>exact ⟨i+1,u,_,by go_num,Nat.lt_succ_self _,bN.u,XV,HT,K,KB,Re,oD⟩
  case round =>
   clear XV HT K KB oD;obtain ⟨k,y,F,rfl,gO,dF,X,HT,K,KB,GY,oD⟩:=hrel;obtain ⟨yb,yo,yc,rfl⟩:=X.u.du GY.u aU
   by_cases b_:k<n
   ·have gY:(k:Int)<(n:Int):=by omega
    have ba:=U b_;go_upto_region 7 with fail;refine c6<|j8 rfl<|j7 rfl ?_;go_frame;refine f4 35 (ax 165 _ _ _ rfl rfl rfl (Kg _ _)) ?_;refine (tL aU aZ HT.u (fun i p u e=>iI OK.u e) ba.u).mono ?_;rintro e1 w1 ⟨Ki,rfl,vh,hb⟩;replace KB:=U (Rg.acc KB.u hb);refine ⟨_,rfl,?_⟩;go_frame;replace HT:=U (HT.u.up hb);replace X:=U (X.u.up hb);replace K:=U (K.u.up hb);have RO:=U vh;generalize cE F wr w1=F1 at *;clear hb;refine j6 (Ki) rfl ?_;go_frame;clear vh;obtain ⟨oa,oc,dG⟩:=RO.u.shape;rw [Ma.aB] at dG;subst dG;have Kj:=U (fun q=>wY (p:=q) OK.u ba.u);have sr:=U (rS tr k n);obtain ⟨O,hO⟩:∃ O,Hid (pW n tr k=O):=⟨_,U rfl⟩;have Kk:=sr.u;rw [show eh tr k n=O from hO.u] at Kk;replace sr:=U Kk;rw [hO.u] at RO Kj ⊢;obtain ⟨B9,G7⟩:∃ B,Hid (wr.heap.size=B):=⟨_,U rfl⟩;rw [G7.u] at RO;clear Kk hO G7;have lC:=U (show ∀ m (h:m<O.length),m<0->Cm.ap y k<=Cm.ap y O[m] from fun m _ h=>absurd h (Nat.not_lt_zero _));have oG:=U (show ∃ v,Cm.cL n tr k k=some v from ⟨_,Cm.cZ⟩);go_wp2
    go_loopw [10,11] (fun bv iv wr=>∃ (b m:Nat) (F1:Nat->Prop),bv=.int .i64 b/\iv=.int .i64 m/\m<=O.length/\b<n/\Hid (FP F1 wr (.slice (some ⟨yb,yo,none⟩) n yc) y)/\Hid (cy F1 tb tf n wr tr Rb V)/\Hid (g_ B9 wr (.slice oa O.length oc) (Ma.ah O))/\Hid (KG F0 w F1 wr)/\Hid (BE w wr)/\Hid (∃ v,Cm.cL n tr k b=some v)/\Hid (∀ m' (h:m' < O.length),m' < m->Cm.ap y b<=Cm.ap y O[m'])) (fun _ iv _=>O.length - (intOf iv).toNat)
    case atStart=>exact ⟨k,0,_,rfl,rfl,Nat.zero_le _,ba.u,X,HT,RO,K,KB,oG,lC⟩
    case round =>
     clear X HT RO K KB oG lC;obtain ⟨b,m,F,rfl,rfl,hm,p_,X,HT,RO,K,KB,oG,lC⟩:=hrel
     have Of:(O.length:Int)<=64:=by have:=sr.u; omega
     by_cases gB:m<O.length
     ·have uX:(m:Int)<(O.length:Int):=by omega
      obtain ⟨og,rfl,Kl⟩:=RO.u.at gB;obtain ⟨q,hq⟩:∃ q:Nat,Hid (q=O[m]):=⟨_,U rfl⟩;rw [<- hq.u] at Kl;have CQ:=U Kl;have fM:=U gB;have zS:=U p_;have zy:=U ((Kj.u q).1 (by rw [hq.u]; exact List.getElem_mem gB))
      have gP:q<n:=by
       obtain ⟨v,hv⟩:=zy.u
       by_cases e:q=k
       ·have:=ba.u; omega
       ·rw [Cm.cP e] at hv; exact (OK.u.lt k q v hv).2
      have kY:=U gP;have jP:=U (X.u.ap GY.u gP);have jQ:=U (X.u.ap GY.u p_);obtain ⟨yq,zz⟩:∃ z:Nat,Hid (z=Cm.ap y q):=⟨_,U rfl⟩;obtain ⟨qG,zA⟩:∃ z:Nat,Hid (z=Cm.ap y b):=⟨_,U rfl⟩;rw [<- zz.u] at jP;rw [<- zA.u] at jQ;clear Kl gP p_ hm
      by_cases az:yq<qG
      ·have Gt:(yq:Int)<(qG:Int):=by omega
       go_upto_region 12 with fail;have d_:BE wr wr.drew:=(Below.refl _ _).drew;replace KB:=U (Rg.acc KB.u d_);clear d_;have aj:BE wr wr.drew:=(Below.refl _ _).drew;replace HT:=U (HT.u.up aj);replace X:=U (X.u.up aj);replace RO:=U (RO.u.up aj);replace CQ:=U (CQ.u.up aj);replace jP:=U (jP.u.up aj);replace jQ:=U (jQ.u.up aj);replace K:=U (K.u.up aj);generalize cE F wr wr.drew=F1 at *;clear aj;refine Rg.Any.begin (S:=Rg.aK 11 (fun _=>True) (fun W=>Below wr.drew.heap.size wr.drew W)) mix ?_;generalize wr.drew=w1 at *;have hS:∀ (l:Array Bool) W,BE w1 W->Rg.aK 11 (fun _=>True) (fun W=>BE w1 W) l W:=fun l W h=>⟨.inr trivial,h⟩;have hI:BE w1 w1:=Below.refl _ _;refine d8 0 11 (.slice (some ⟨yb,yo,none⟩) n yc) 43 (hS _ _ hI)<|d8 1 11 (.slice (some ⟨og,0,none⟩) O.length oc) 44 (hS _ _ hI)<|d8 2 11 (.int .i64 (m:Int)) 45 (hS _ _ hI)<|d7 3 11 (.pointer (some ⟨og,0+m,none⟩)) 46 rfl rfl (Rg.ai aQ _ _ rfl rfl og (0) (O.length) oc (m) rfl rfl fM.u) (hS _ _ hI)<|d7 4 11 (.int .i64 (q:Int)) 47 rfl rfl (j2 ⟨og,0+m,none⟩ (fun W hW=>af ((Below.cell (p:=⟨og,0+m,none⟩) hW CQ.u.lt).trans CQ.u.cell))) (hS _ _ hI) ?_;go_frame;refine d7 5 11 (.pointer (some ⟨yb,yo+q,none⟩)) 48 rfl rfl (Rg.ai bC _ _ rfl rfl yb (yo) (n) yc (q) rfl rfl kY.u) (hS _ _ hI)<|d7 6 11 (.int .i64 (yq:Int)) 49 rfl rfl (j2 ⟨yb,yo+q,none⟩ (fun W hW=>af ((Below.cell (p:=⟨yb,yo+q,none⟩) hW jP.u.lt).trans jP.u.cell))) (hS _ _ hI)<|d8 7 11 (.slice (some ⟨yb,yo,none⟩) n yc) 50 (hS _ _ hI)<|d8 8 11 (.int .i64 (b:Int)) 51 (hS _ _ hI)<|d7 9 11 (.pointer (some ⟨yb,yo+b,none⟩)) 52 rfl rfl (Rg.ai bC _ _ rfl rfl yb (yo) (n) yc (b) rfl rfl zS.u) (hS _ _ hI) ?_;go_frame
       refine d7 10 11 (.int .i64 (qG:Int)) 53 rfl rfl (j2 ⟨yb,yo+b,none⟩ (fun W hW=>af ((Below.cell (p:=⟨yb,yo+b,none⟩) hW jQ.u.lt).trans jQ.u.cell))) (hS _ _ hI)<|j1 11 54 rfl rfl (g8 (.bool true) .lss (h:=aI _ f7)) (hS _ _ hI) ?_;go_frame;refine Rg.Any.done (by kernel_rfl) ?_ _;clear hS hI;go_upto_region 13 with fail;refine c6<|j8 rfl<|j7 rfl<|k8 (ag aQ _ _ rfl og (0) (O.length) oc (m) rfl rfl fM.u)<|k8 (g7 (.int .i64 (q:Int)) ⟨og,0+m,none⟩ (af CQ.u.cell)) ?_;go_frame;refine j7 rfl ?_;go_frame
       have nJ:=U (show ∀ m' (h:m' < O.length),m' < m+1->Cm.ap y q<=Cm.ap y O[m'] from fun m' h h2=>by
        have a1:=zz.u;have a2:=zA.u
        by_cases e:m'=m
        ·subst e
         rw [<- hq.u]; omega
        ·have:=lC.u m' h (by omega)
         omega)
       go_wp2;go_roundw
       case rel=>exact ⟨q,m+1,_,rfl,by go_num,fM.u,kY.u,X,HT,RO,K,KB,zy,nJ⟩
       case measure=>simp [intOf]; have:=fM.u; omega
      ·have Gt:¬ (yq:Int)<(qG:Int):=by omega
       go_upto_region 12 with fail;have d_:BE wr wr.drew:=(Below.refl _ _).drew;replace KB:=U (Rg.acc KB.u d_);clear d_;have aj:BE wr wr.drew:=(Below.refl _ _).drew;replace HT:=U (HT.u.up aj);replace X:=U (X.u.up aj);replace RO:=U (RO.u.up aj);replace CQ:=U (CQ.u.up aj);replace jP:=U (jP.u.up aj);replace jQ:=U (jQ.u.up aj);replace K:=U (K.u.up aj);generalize cE F wr wr.drew=F1 at *;clear aj;refine Rg.Any.begin (S:=Rg.aK 11 (fun _=>True) (fun W=>Below wr.drew.heap.size wr.drew W)) mix ?_;generalize wr.drew=w1 at *;have hS:∀ (l:Array Bool) W,BE w1 W->Rg.aK 11 (fun _=>True) (fun W=>BE w1 W) l W:=fun l W h=>⟨.inr trivial,h⟩;have hI:BE w1 w1:=Below.refl _ _;refine d8 0 11 (.slice (some ⟨yb,yo,none⟩) n yc) 43 (hS _ _ hI)<|d8 1 11 (.slice (some ⟨og,0,none⟩) O.length oc) 44 (hS _ _ hI)<|d8 2 11 (.int .i64 (m:Int)) 45 (hS _ _ hI)<|d7 3 11 (.pointer (some ⟨og,0+m,none⟩)) 46 rfl rfl (Rg.ai aQ _ _ rfl rfl og (0) (O.length) oc (m) rfl rfl fM.u) (hS _ _ hI)<|d7 4 11 (.int .i64 (q:Int)) 47 rfl rfl (j2 ⟨og,0+m,none⟩ (fun W hW=>af ((Below.cell (p:=⟨og,0+m,none⟩) hW CQ.u.lt).trans CQ.u.cell))) (hS _ _ hI) ?_;go_frame;refine d7 5 11 (.pointer (some ⟨yb,yo+q,none⟩)) 48 rfl rfl (Rg.ai bC _ _ rfl rfl yb (yo) (n) yc (q) rfl rfl kY.u) (hS _ _ hI)<|d7 6 11 (.int .i64 (yq:Int)) 49 rfl rfl (j2 ⟨yb,yo+q,none⟩ (fun W hW=>af ((Below.cell (p:=⟨yb,yo+q,none⟩) hW jP.u.lt).trans jP.u.cell))) (hS _ _ hI)<|d8 7 11 (.slice (some ⟨yb,yo,none⟩) n yc) 50 (hS _ _ hI)<|d8 8 11 (.int .i64 (b:Int)) 51 (hS _ _ hI)<|d7 9 11 (.pointer (some ⟨yb,yo+b,none⟩)) 52 rfl rfl (Rg.ai bC _ _ rfl rfl yb (yo) (n) yc (b) rfl rfl zS.u) (hS _ _ hI) ?_;go_frame
       refine d7 10 11 (.int .i64 (qG:Int)) 53 rfl rfl (j2 ⟨yb,yo+b,none⟩ (fun W hW=>af ((Below.cell (p:=⟨yb,yo+b,none⟩) hW jQ.u.lt).trans jQ.u.cell))) (hS _ _ hI)<|j1 11 54 rfl rfl (g8 (.bool false) .lss (h:=aI _ f8)) (hS _ _ hI) ?_;go_frame;refine Rg.Any.done (by kernel_rfl) ?_ _;clear hS hI
       have nJ:=U (show ∀ m' (h:m' < O.length),m' < m+1->Cm.ap y b<=Cm.ap y O[m'] from fun m' h h2=>by
        have a1:=zz.u;have a2:=zA.u
        by_cases e:m'=m
        ·subst e
         rw [<- hq.u]; omega
        ·have:=lC.u m' h (by omega)
         omega)
       go_wp2;go_roundw
       case rel=>exact ⟨b,m+1,_,rfl,by go_num,fM.u,zS.u,X,HT,RO,K,KB,oG,nJ⟩
       case measure=>simp [intOf]; have:=fM.u; omega
     ·obtain rfl:m=O.length:=by omega
      have uX:¬ (O.length:Int)<(O.length:Int):=by omega
      have xR:=U (show ∀ q',Cm.cL n tr k q'≠none->Cm.ap y b<=Cm.ap y q' from fun q' FM=>by
       obtain ⟨v,hv⟩:=Option.ne_none_iff_exists'.1 FM;obtain ⟨m',ou,rfl⟩:=List.getElem_of_mem ((Kj.u q').2 ⟨v,hv⟩)
       exact lC.u m' ou ou)
      obtain ⟨v,hv⟩:=oG.u;have Gu:=U (Cm.LI.step HH.u p9.u Re.u gO ba.u oD.u hv xR.u);have GV:=U (OK.u.rp.gd k b v (Nat.zero_le _) ba.u hv);have GM:=U (Cm.bm GV.u GY.u);clear xR lC oG
      by_cases nK:b=k
      ·have Qu:(b:Int)=(k:Int):=by omega
       have HE:=U (show Ma.aq v y=y by
        subst nK;rw [Cm.cZ] at hv
        injection hv with e
        rw [<- e,Cm.one_mul GY.u])
       clear nK hv;go_upto_region 14 with fail;refine c6<|j7 rfl<|j7 rfl<|k8 (g8 (.bool false) .neq (h:=aE _ f8)) ?_;go_frame;go_wp2;go_roundw
       case rel=>exact ⟨k+1,y,_,by go_num,by omega,ba.u,X,HT,K,KB,GY,U (by have:=Gu.u; rwa [HE.u] at this)⟩
       case measure=>simp [intOf]; have:=ba.u; omega
      ·have Qu:¬ (b:Int)=(k:Int):=by omega
       rw [Cm.cP nK] at hv;have zS:=U p_;have UP:=U (HT.u.some_ k b v ba.u p_ hv);have CO:=U (HT.u.u k ba.u);have CE:=U (CL.mk (show wr.cell? ⟨Rb k,0+b,none⟩=some (V k b) by rw [Nat.zero_add]; exact HT.u.cell ba.u p_) (HT.u.lt ba.u));clear nK hv;go_upto_region 14 with fail;refine c6<|j7 rfl<|j7 rfl<|k8 (g8 (.bool true) .neq (h:=aE _ f7)) ?_;go_frame;go_upto_region 15 with fail;refine c6<|j8 rfl<|j7 rfl<|k8 (ag fN _ _ rfl tb (tf) (n) tc (k) rfl rfl ba.u)<|k8 (g7 (.slice (some ⟨(Rb k),0,none⟩) n n) ⟨tb,tf+k,none⟩ (Rg.ae _ _ Tryz.underlying41 CO.u.cell)) ?_;go_frame;refine j7 rfl<|k8 (ag aM _ _ rfl (Rb k) (0) (n) n (b) rfl rfl zS.u)<|k8 (g7 ((V k b)) ⟨(Rb k),0+b,none⟩ (Rg.ae _ _ Tryz.underlying27 CE.u.cell))<|j8 rfl ?_;go_frame;refine f4 70 (ax 34 _ _ _ rfl rfl rfl (tH _ _)) ?_;refine (rQ UP.u X.u GV.u GY.u aZ).mono ?_;rintro e1 w1 ⟨mv,rfl,gX,hb⟩;replace KB:=U (Rg.acc KB.u hb);refine ⟨_,rfl,?_⟩;go_frame;replace HT:=U (HT.u.up hb);replace X:=U (X.u.up hb);replace UP:=U (UP.u.up hb);replace CO:=U (CO.u.up hb);replace CE:=U (CE.u.up hb);replace K:=U (K.u.up hb);have MV:=U gX;generalize cE F wr w1=F1 at *;clear hb;refine j6 (mv) rfl ?_;go_frame;clear gX;go_wp2;go_roundw
       case rel=>exact ⟨k+1,_,_,by go_num,by omega,ba.u,MV,HT,K,KB,GM,Gu⟩
       case measure=>simp [intOf]; have:=ba.u; omega
   ·obtain rfl:k=n:=by omega
    have gY:¬ (k:Int)<(k:Int):=by omega
    have kI:=U KB.u.size;go_upto_region 16 with fail;refine c6<|j8 rfl ?_;go_frame;refine f4 72 (aA 36 _ _ rfl rfl (Kh _ _)) ?_;refine (zD _ (Ma.ah y) wr X.u.np (by rw [Ma.aB,GY.u.2]; omega)).mono ?_;rintro e1 w1 ⟨v2,rfl,bH,hb⟩;replace KB:=U (Rg.acc KB.u hb);have mZ:=U bH;clear bH;refine ⟨_,rfl,?_⟩;go_frame;replace HT:=U (HT.u.up hb);replace X:=U (X.u.up hb);replace K:=U (K.u.up hb);generalize cE F wr w1=F1 at *;clear hb;refine j6 (v2) rfl ?_;go_frame;go_wp2;go_ret;exact (show Eg _ _ _ _ _ _ _ from ⟨_,_,_,rfl,kI.u,mZ.u,oD.u,GY.u,KB.u⟩)

theorem XY (args:Array Value) (w:World):(callFunc 166 args).run Tryz.prog w=.ok (.enter 166 args) w:=by kernel_rfl
theorem G_ (aU:1<=n) (aZ:n<=64) {w:World} {tr:Tr} {Rb:Nat->Nat} {V:Nat->Nat->Value} (hT:cy F tb tf n w tr Rb V) {gs:List Nat->Prop} (hg:∀ s,gs s->Cm.Gd n s) (BA:dg n gs tr) (dJ:Cm.mj n (Cm.Gr n gs) (Cm.cL n tr)) :
  Calls Tryz.prog 148 #[.slice (some ⟨tb,tf,none⟩) n tc] w fun e w'=>∃ ov rv O R,e=.returned (.agg #[.int .i64 ((n:Nat):Int),ov,rv])/\Rg.aL (fun z=>w.heap.size<=z) w' ov (O.map Ma.ah)/\aV (fun z=>w.heap.size<=z) w' rv (R.map (List.map Ma.ah))/\Cm.ar n (Cm.Gr n gs) O R/\BE w w':=by
 have K:=U (bi w);have HT:=U hT;have qF:=U hg;have HH:=U (Cm.Gr.dE hg);have OK:=U BA;have p9:=U dJ;clear hT hg BA dJ
 go_enter Tryz.func148,Tryz.ntmps148
 go_upto_region 0 with fail;refine c6 ?_;have bV:=cj.new w (.int .i64 0) (.slice none 0 0) (.slice none 0 0);refine k8 (bj rfl) ?_;go_frame;have hb:=be w (.cells #[.int .i64 0,.slice none 0 0,.slice none 0 0] 25);generalize w.alloc (.cells #[.int .i64 0,.slice none 0 0,.slice none 0 0] 25)=w1 at *;replace HT:=U (HT.u.p hb);replace K:=U (Rg.acc K.u hb);clear hb;have FT:=U bV;have K1:=U (bi w1);have GC:=(FT.u.lt);clear bV;go_upto_region 1 with fail;refine c6<|j8 rfl<|k8 (g9 Tryz.underlying180)<|k8 (nL (d:=(n:Int)) _ rfl rfl) ?_;go_frame;have bV:=cj.new w1 (.int .i64 0) (.slice none 0 0) (.slice none 0 0);refine k8 (bj rfl) ?_;go_frame;have hb:=be w1 (.cells #[.int .i64 0,.slice none 0 0,.slice none 0 0] 25);generalize w1.alloc (.cells #[.int .i64 0,.slice none 0 0,.slice none 0 0] 25)=w2 at *;replace K1:=U (Rg.acc K1.u hb);clear hb;have FC:=U bV;refine Rg.aG none rfl rfl (Rg.ak _ _ _ rfl _ rfl _ rfl (aJ _ _ _ _ _ _ _ FC.u)) ?_;go_frame;clear bV;replace FC:=U (FC.u.set (.int .i64 (n:Int)) (.slice none 0 0) (.slice none 0 0));replace K1:=U (((K1.u.setCell (p:=⟨w1.heap.size,0,none⟩) (Nat.le_refl _) (.int .i64 (n:Int))).setCell (p:=⟨w1.heap.size,1,none⟩) (Nat.le_refl _) (.slice none 0 0)).setCell (p:=⟨w1.heap.size,2,none⟩) (Nat.le_refl _) (.slice none 0 0));generalize (((w2).setCell ⟨w1.heap.size,0,none⟩ (.int .i64 (n:Int))).setCell ⟨w1.heap.size,1,none⟩ (.slice none 0 0)).setCell ⟨w1.heap.size,2,none⟩ (.slice none 0 0)=w5 at *;have CH:=U (dV.start FC.u (Nat.le_refl _));clear FC;go_upto_region 2 with fail
 refine c6<|j7 rfl ?_;go_frame;have pq:=U (Cm.PC.nil n (Cm.Gr n gs) (Cm.cL n tr));go_wp2
 go_loopw [4] (fun iv wr=>∃ (k:Nat) (ov rv:Value) (O:List (List Nat)) (R:List (List (List Nat))),iv=.int .i64 k/\k<=n/\Hid (dV w1.heap.size wr w1.heap.size (.int .i64 ((n:Nat):Int)) ov rv ov rv (O.map Ma.ah) (R.map (List.map Ma.ah)))/\Hid (BE w1 wr)/\Hid (Cm.PC n (Cm.Gr n gs) (Cm.cL n tr) k O R)) (fun iv _=>n - (intOf iv).toNat)
 case atStart=>exact ⟨0,_,_,[],[],rfl,Nat.zero_le _,CH,K1,pq⟩
 case round =>
  clear CH K1 pq;obtain ⟨k,ov,rv,O,R,rfl,hk,CH,K1,pq⟩:=hrel;have GD:=CH.u.uY;have GH:=CH.u.D8;rw [List.length_map] at GD GH;obtain ⟨dW,dX,rfl⟩:=GD;obtain ⟨dK,dL,rfl⟩:=GH
  by_cases b_:k<n
  ·have gY:(k:Int)<(n:Int):=by omega
   have fC:=U (Ot tr k n);have J4:=U (fun p=>wY (p:=p) OK.u b_);have zH:=U (Nat.le_trans (rS tr k n) aZ);obtain ⟨l,hl⟩:∃ l,Hid (pW n tr k=l):=⟨_,U rfl⟩;replace fC:Hid (l.Pairwise (· < ·)):=U (by rw [<- hl.u]; exact fC.u);replace zH:Hid (l.length<=64):=U (by rw [<- hl.u]; exact zH.u);rw [hl.u] at J4;have D_:=U (show 1<=l.length from List.length_pos_of_mem ((J4.u k).2 ⟨_,Cm.cZ⟩));have ba:=U b_;have fl:=U (show (∀ z,(Value.slice dW O.length dX).ownBlock=some z->z<wr.heap.size)/\(∀ z,(Value.slice dK R.length dL).ownBlock=some z->z<wr.heap.size)/\w1.heap.size<wr.heap.size from ⟨fun z e=>(CH.u.sq.1 z e).2,fun z e=>(CH.u.sq.2 z e).2,CH.u.gZ.lt⟩);have jR:=U (SZ.mk (Nat.le_refl wr.heap.size));go_upto_region 5 with fail;refine c6<|j8 rfl<|j7 rfl ?_;go_frame;have QD:=jR.u.le;refine f4 19 (ax 165 _ _ _ rfl rfl rfl (Kg _ _)) ?_;refine (tL aU aZ (HT.u.p K1.u) (fun i p u e=>iI OK.u e) ba.u).mono ?_;rintro e1 gA ⟨v,rfl,bH,hb⟩;rw [hl.u] at bH;have hq:=jh bH.own (k:=0) (by rw [Ma.aB]; exact D_.u);rw [Ma.aB] at hq;obtain ⟨sb,sc,u0,rfl,_,_,_⟩:=hq;have Ea:=U QD;refine ⟨_,rfl,?_⟩;go_frame;replace CH:=U (CH.u.p hb);replace jR:=U (jR.u.p hb);replace K1:=U (Rg.acc K1.u hb);clear hb;have R5:=U bH;refine j8 rfl ?_;go_frame;clear bH;replace HT:=U (HT.u.p K1.u);replace FT:=U (FT.u.p K1.u);have K5:=U (bi gA);have RP:=U (fE.nil gA.heap.size gA);have zI:=U (show ∀ j,j<0->Cm.lO n (fun z=>Cm.St (Cm.Gr n gs) k z/\Cm.ap z k=l.getD j 0) (([]:List (List Nat)).getD j []) from fun j h=>absurd h (Nat.not_lt_zero _))
   go_wp2
   go_loopw [7,6] (fun iv tv wq=>∃ (m:Nat) (rs:List (List Nat)),iv=.int .i64 m/\m<=l.length/\rs.length=m/\Hid (fE gA.heap.size wq tv (rs.map Ma.ah))/\Hid (BE gA wq)/\Hid (∀ j,j<m->Cm.lO n (fun z=>Cm.St (Cm.Gr n gs) k z/\Cm.ap z k=l.getD j 0) (rs.getD j []))) (fun iv _ _=>l.length - (intOf iv).toNat)
   case atStart=>exact ⟨0,[],rfl,Nat.zero_le _,rfl,RP,K5,zI⟩
   case round =>
    clear K5 RP zI;obtain ⟨m,rs,rfl,hm,zJ,RP,K5,zI⟩:=hrel
    have hlN:(l.length:Int)<=64:=by have:=zH.u; omega
    obtain ⟨ta,Hb,rfl⟩:=RP.u.shape
    by_cases gB:m<l.length
    ·have uX:(m:Int)<(l.length:Int):=by omega
     obtain ⟨p,hp⟩:∃ p:Nat,Hid (p=l[m]):=⟨_,U rfl⟩
     have aP:gA.cell? ⟨sb,0+m,none⟩=some (.int .i64 (p:Int)):=by
      obtain ⟨g,c,u,e1,e2,e3,_⟩:=jh R5.u.own (k:=m) (by rw [Ma.aB]; exact gB);simp only [Value.slice.injEq,Option.some.injEq,Addr.mk.injEq] at e1;obtain ⟨⟨rfl,_,_⟩,_,_⟩:=e1;rw [e2,<- e3,hp.u];simp [Ma.ah,List.getElem?_eq_getElem gB]
     have CS:=U (CL.mk aP (dU aP));obtain ⟨u,hu⟩:=(J4.u p).1 (by rw [hp.u]; exact List.getElem_mem gB);have HU:=U hu;have fM:=U gB;have nN:=U zJ;clear aP hu zJ;go_upto_region 10 with fail;refine c6<|j8 rfl<|j8 rfl<|j7 rfl<|j8 rfl ?_;go_frame;refine j7 rfl<|k8 (ag aQ _ _ rfl sb (0) (l.length) sc (m) rfl rfl fM.u)<|k8 (g7 (.int .i64 (p:Int)) ⟨sb,0+m,none⟩ (af ((Below.cell (p:=⟨sb,0+m,none⟩) K5.u CS.u.lt).trans CS.u.cell))) ?_;go_frame;have GJ:=U (fun z e=>(RP.u.lt z e).2);have QE:=U K5.u.size;refine f4 33 (dm 166 _ _ _ _ rfl rfl rfl rfl (XY _ _)) ?_;refine (G9 aU aZ (HT.u.p K5.u) qF.u OK.u p9.u ba.u HU.u).mono ?_;rintro e1 fj ⟨yv,y,B8,rfl,hB8,bH,UZ,U0,hb⟩;obtain ⟨ca,cc,rfl⟩:=Rg.cQ bH;have mZ:=U bH;have oD:=U UZ;have GY:=U U0;have HB8:=U hB8;clear bH UZ U0 hB8;refine ⟨_,rfl,?_⟩;go_frame;replace RP:=U (RP.u.p hb);replace K5:=U (Rg.acc K5.u hb);clear hb;refine k8 (Rg.aF _ _ _ rfl (.slice ca (Ma.ah y).length cc) rfl (cn fj _ ⟨_,_,_,rfl⟩)) ?_;go_frame;obtain ⟨a9,c9,X9,r1,r2,r3⟩:=RP.u.push K5.u.size mZ.u (by rw [Ma.aB,GY.u.2]; omega) (fun z e=>⟨by have:=(mZ.u.lt z e).1; have:=QE.u; have:=HB8.u; omega,fun e2=>by have:=(mZ.u.lt z e).1; have:=GJ.u z e2; have:=HB8.u; omega⟩) (by rw [List.length_map,nN.u]; have:=zH.u; have:=fM.u; omega) 41;refine k8 (Rg.aT _ _ _ rfl rfl rfl r1)<|j8 rfl ?_;go_frame;have K6:=U (r3 (Nat.le_refl _) K5.u);have XI:=U (show fE gA.heap.size X9 (.slice a9 ((rs.map Ma.ah).length+1) c9) ((rs++[y]).map Ma.ah) by rw [List.map_append]; exact r2);have XJ:=U (Cm.LI.done HH.u ba.u ⟨p9.u.mem k p u ba.u HU.u,p9.u.rp.fx k p u (Nat.zero_le _) ba.u HU.u⟩ oD.u)
     have QF:=U (show ∀ j,j<m+1->Cm.lO n (fun z=>Cm.St (Cm.Gr n gs) k z/\Cm.ap z k=l.getD j 0) ((rs++[y]).getD j []) from fun j hj=>by
      have hl:=nN.u
      by_cases e:j=m
      ·subst e
       have e1:(rs++[y]).getD j []=y:=by
        rw [List.getD_eq_getElem?_getD,List.getElem?_append_right (by omega),hl]; simp
       have e2:l.getD j 0=p:=by
        rw [hp.u,List.getD_eq_getElem?_getD,List.getElem?_eq_getElem fM.u]; rfl
       have e3:Cm.ap u k=p:=p9.u.rp.at_ k p u (Nat.zero_le _) ba.u HU.u;rw [e1,e2];have:=XJ.u
       rwa [e3] at this
      ·have e1:(rs++[y]).getD j []=rs.getD j []:=by
        rw [List.getD_eq_getElem?_getD,List.getD_eq_getElem?_getD,List.getElem?_append_left (by omega)]
       rw [e1]
       exact zI.u j (by omega))
     have QH:=U (show (rs++[y]).length=m+1 by rw [List.length_append,nN.u]; rfl);clear r1 r2 r3;go_wp2;go_roundw
     case rel=>exact ⟨m+1,rs++[y],by go_num,fM.u,QH.u,XI,K6,QF⟩
     case measure=>simp [intOf]; have:=fM.u; omega
    ·obtain rfl:m=l.length:=by omega
     have uX:¬ (l.length:Int)<(l.length:Int):=by omega
     replace CH:=U (CH.u.p K5.u);replace K1:=U (Rg.acc K1.u K5.u);have XK:=jR.u.le;replace jR:=U (jR.u.p K5.u);have QI:=R5.u.p K5.u
     have PD:=U (uZ.mk CH.u (QI.fi (by rw [Ma.aB]; omega) (G:=iH w1.heap.size wr w1.heap.size (Value.slice dW O.length dX) (Value.slice dK R.length dL)) (fun z g1 g2=>⟨by have:=Ea.u; have:=fl.u.2.2; omega,g2,fun e=>by have:=Ea.u; have:=fl.u.1 z e; omega,fun e=>by have:=Ea.u; have:=fl.u.2.1 z e; omega,by have:=Ea.u; have:=fl.u.2.2; omega⟩))
      (RP.u.J3 (by rw [List.length_map,zJ]; omega) (G:=iH w1.heap.size wr w1.heap.size (Value.slice dW O.length dX) (Value.slice dK R.length dL)) (fun z g1 g2=>⟨by have:=fl.u.2.2; omega,g2,fun e=>by have:=fl.u.1 z e; omega,fun e=>by have:=fl.u.2.1 z e; omega,by have:=fl.u.2.2; omega⟩)))
     have QJ:=U zJ;have sr:=U (show (O.map Ma.ah).length<1000000 by rw [List.length_map,pq.u.i_]; omega);have GK:=U (show (R.map (List.map Ma.ah)).length<1000000 by rw [List.length_map,pq.u.iN]; omega);clear XK QI CH RP R5 FT zJ;go_upto_region 11 with fail;have d_:BE wr wr.drew:=(Below.refl _ _).drew;replace PD:=U (PD.u.p d_);replace K1:=U (Rg.acc K1.u d_);replace jR:=U (jR.u.p d_);clear d_;have aj:BE wr wr.drew:=(Below.refl _ _).drew;generalize cE F wr wr.drew=F1 at *;clear aj;refine Rg.Any.begin (S:=Rg.aK 11 (fun W:World=>cj W w1.heap.size (.int .i64 (n:Int)) (Value.slice dW O.length dX) (Value.slice dK R.length dL)/\BE w1 W) (fun _=>True)) mix ?_;generalize wr.drew=fB at *;have hS:∀ (l:Array Bool) W,(fun W:World=>cj W w1.heap.size (.int .i64 (n:Int)) (Value.slice dW O.length dX) (Value.slice dK R.length dL)/\BE w1 W) W->Rg.aK 11 (fun W:World=>cj W w1.heap.size (.int .i64 (n:Int)) (Value.slice dW O.length dX) (Value.slice dK R.length dL)/\BE w1 W) (fun _=>True) l W:=fun l W h=>⟨.inr h,trivial⟩;have cF:∀ (l:Array Bool) W,l.getD 11 false=true->Rg.aK 11 (fun W:World=>cj W w1.heap.size (.int .i64 (n:Int)) (Value.slice dW O.length dX) (Value.slice dK R.length dL)/\BE w1 W) (fun _=>True) l W:=fun l W h=>⟨.inl h,trivial⟩;have hI:(fun W:World=>cj W w1.heap.size (.int .i64 (n:Int)) (Value.slice dW O.length dX) (Value.slice dK R.length dL)/\BE w1 W) fB:=⟨PD.u.ch.gZ,K1.u⟩;refine d7 0 11 (.pointer (some ⟨w1.heap.size,1,none⟩)) 36 rfl rfl (j3 fun w=>aw _ rfl rfl (cp _ _)) (hS _ _ hI)<|j0 1 11 (.slice dW O.length dX) 37 rfl rfl (j2 ⟨w1.heap.size,1,none⟩ (fun W hW=>Rg.ae _ _ Tryz.underlying22 hW.1.c1)) (hS _ _ hI)<|d8 2 11 (.slice (some ⟨sb,0,none⟩) l.length sc) 38 (hS _ _ hI)<|d7 5 11 (.pointer (some ⟨w1.heap.size,2,none⟩)) 41 rfl rfl (j3 fun w=>aw _ rfl rfl (cJ _ _)) (hS _ _ hI)<|j0 6 11 (.slice dK R.length dL) 42 rfl rfl (j2 ⟨w1.heap.size,2,none⟩ (fun W hW=>Rg.ae _ _ Tryz.underlying23 hW.1.c2)) (hS _ _ hI) ?_;go_frame
     refine d8 7 11 (.slice ta (rs.map Ma.ah).length Hb) 43 (hS _ _ hI) ?_;go_frame
     refine Rg.Any.J0 (i:=3) (k:=4) (j:=8) (q:=10) (di:=39) (dk:=40) (dj:=44) (dq:=46) (vq:=.pointer (some ⟨w1.heap.size,1,none⟩)) (I:=fun W=>(fun W:World=>cj W w1.heap.size (.int .i64 ((n:Nat):Int)) (Value.slice dW O.length dX) (Value.slice dK R.length dL)/\BE w1 W) W/\fB.heap.size<=W.heap.size) (R0:=fun W=>uZ w1.heap.size W w1.heap.size (.int .i64 ((n:Nat):Int)) (Value.slice dW O.length dX) (Value.slice dK R.length dL) (Value.slice dW O.length dX) (Value.slice dK R.length dL) (O.map Ma.ah) (R.map (List.map Ma.ah)) (.slice (some ⟨sb,0,none⟩) l.length sc) (Ma.ah l) (.slice ta (rs.map Ma.ah).length Hb) (rs.map Ma.ah)) (Ri:=fun u W=>Rg.f_ fB.heap.size [.slice (some ⟨sb,0,none⟩) l.length sc] u W) (Rk:=fun x W=>dV w1.heap.size W w1.heap.size (.int .i64 ((n:Nat):Int)) (Value.slice dW O.length dX) (Value.slice dK R.length dL) x (Value.slice dK R.length dL) (O.map Ma.ah++[Ma.ah l]) (R.map (List.map Ma.ah))/\Rg.aL (iH w1.heap.size W w1.heap.size x (Value.slice dK R.length dL)) W (.slice ta (rs.map Ma.ah).length Hb) (rs.map Ma.ah)/\∃ a c,x=.slice a (O.length+1) c) (Rj:=fun v W=>Rg.f_ fB.heap.size [.slice ta (rs.map Ma.ah).length Hb] v W) (fun l W h=>hS l W h.1)
      (by decide) (by decide) (by decide) (by decide) (by decide) (by decide) (by kernel_rfl) (by kernel_rfl) (by kernel_rfl) (by kernel_rfl) (by kernel_rfl) ?_ ?_
      (fun _ _ hb h=>h.p hb) (fun _ _ _ hb h=>h.p hb) (fun _ _ _ hb h=>⟨h.1.p hb,lS h.2.1 hb,h.2.2⟩) (fun _ _ _ hb h=>h.p hb) ?_ ?_ ?_ ⟨hI,Nat.le_refl _⟩ (PD.u) ?_
     ·intro u x W m hs h
      exact Rg.Any.qq (i:=10) (t:=11) (v:=.pointer (some ⟨w1.heap.size,1,none⟩)) (some 46) rfl rfl (by kernel_rfl) (by kernel_rfl) (by kernel_rfl) (fun _ _ _ h=>h) rfl (j3 fun w=>aw _ rfl rfl (cp _ _)) hs h
     ·intro u v x W m hs h
      exact Rg.Any.qq (i:=10) (t:=11) (v:=.pointer (some ⟨w1.heap.size,1,none⟩)) (some 46) rfl rfl (by kernel_rfl) (by kernel_rfl) (by kernel_rfl) (fun _ _ _ h=>h) rfl (j3 fun w=>aw _ rfl rfl (cp _ _)) hs h
     ·intro b hb W hW
      have kV:BE W (W.alloc (.cells #[.slice (some ⟨sb,0,none⟩) l.length sc] 26)):=(Below.refl _ _).alloc (Nat.le_refl _) _
      exact Rg.jK rfl rfl (by rcases hb with rfl | ⟨u,rfl⟩ <;> rfl) (Rg.aF _ _ _ rfl (.slice (some ⟨sb,0,none⟩) l.length sc) (by rcases hb with rfl | ⟨u,rfl⟩ <;> rfl) (pg W _ ⟨_,_,_,rfl⟩)) ⟨⟨⟨hW.1.1.p kV,Rg.acc hW.1.2 kV⟩,by simp; have:=hW.2; omega⟩,Rg.f_.new W [.slice (some ⟨sb,0,none⟩) l.length sc] 26 hW.2,kV⟩
     ·intro b hb W hW
      have kV:BE W (W.alloc (.cells #[.slice ta (rs.map Ma.ah).length Hb] 41)):=(Below.refl _ _).alloc (Nat.le_refl _) _
      exact Rg.jK rfl rfl (by rcases hb with rfl | ⟨u,rfl⟩ | ⟨u,v,rfl⟩ <;> rfl) (Rg.aF _ _ _ rfl (.slice ta (rs.map Ma.ah).length Hb) (by rcases hb with rfl | ⟨u,rfl⟩ | ⟨u,v,rfl⟩ <;> rfl) (nM W _ ⟨_,_,_,rfl⟩)) ⟨⟨⟨hW.1.1.p kV,Rg.acc hW.1.2 kV⟩,by simp; have:=hW.2; omega⟩,Rg.f_.new W [.slice ta (rs.map Ma.ah).length Hb] 41 hW.2,kV⟩
     ·intro u b hb W hW h0 hu
      obtain ⟨pu,rfl,qd,px,nD⟩:=hu;obtain ⟨a2,c2,X,r1,r2,r3,r4⟩:=h0.ch.lA hW.1.2.size h0.f5 rfl sr.u (nD 0 (by simp)) 22;have jM:=Rg.Kp.cC r3 (M:=fun z=>(Value.slice dW O.length dX).ownBlock=some z) (fun _ e=>e)
      exact Rg.jK rfl rfl (by rcases hb with rfl | ⟨v,rfl⟩ <;> rfl) (Rg.aT _ _ _ rfl (by rcases hb with rfl | ⟨v,rfl⟩ <;> rfl) (by rcases hb with rfl | ⟨v,rfl⟩ <;> rfl) r1) ⟨⟨⟨r2.gZ,hW.1.2.grown r3 hW.1.2.size (fun j e=>(h0.ch.sq.1 j e).1)⟩,Nat.le_trans hW.2 r3.size⟩,⟨r2,aL.mono (aL.kp h0.f6 jM (fun z g e=>g.2.2.1 e)) r4,_,_,by rw [List.length_map]⟩,fun v hv=>hv.grown r3 (fun j e=>Nat.lt_of_lt_of_le (fl.u.1 j e) jR.u.le)⟩
     rintro tE fu fx fv hb hk hj;have tF:=hb.1;have WE:=hb.2;clear hb hI;go_frame;have FK:=U hk;have FJ:=U hj;obtain ⟨pj,QK,U1,yA,sf⟩:=FJ.u;subst QK;obtain ⟨a2,c2,F8⟩:=FK.u.2.2;subst F8;obtain ⟨a3,c3,X3,q1,q2,q3⟩:=FK.u.1.zF tF.2.size FK.u.2.1 rfl GK.u (sf 0 (by simp)) 23;rw [List.length_map] at q1 q2;have gQ:=(show _/\_ from ⟨q2.gZ,tF.2.grown q3 tF.2.size (fun j e=>(FK.u.1.sq.2 j e).1)⟩);refine j1 9 45 rfl rfl (Rg.aT _ _ _ rfl rfl rfl q1) (hS _ _ gQ) ?_;go_frame;have KX:=U gQ.2;refine Rg.Any.one (i:=11) (by kernel_rfl) (Rg.Any.dx none rfl rfl rfl (Rg.ak _ _ _ rfl _ rfl _ rfl (Rg.bz _ tC q2.gZ.c1 q2.gZ.f1)) (cF _ _ rfl) ?_);go_frame;refine d7 12 11 (.pointer (some ⟨w1.heap.size,2,none⟩)) 47 rfl rfl (j3 fun w=>aw _ rfl rfl (cJ _ _)) (cF _ _ rfl) ?_;go_frame;refine Rg.Any.one (i:=13) (by kernel_rfl) (Rg.Any.dx none rfl rfl rfl (Rg.ak _ _ _ rfl _ rfl _ rfl (Rg.bz _ qH (q2.gZ.CV _).c2 (q2.gZ.CV _).f2)) (cF _ _ rfl) ?_);go_frame;refine Rg.Any.done (by kernel_rfl) ?_ _;clear cF;clear hS gQ;have Bx:=q2.store (.slice a2 (O.length+1) c2) (.slice a3 (R.length+1) c3);have GL:=(KX.u.setCell (p:=⟨w1.heap.size,1,none⟩) (Nat.le_refl _) (.slice a2 (O.length+1) c2)).setCell (p:=⟨w1.heap.size,2,none⟩) (Nat.le_refl _) (.slice a3 (R.length+1) c3);generalize (X3.setCell ⟨w1.heap.size,1,none⟩ (.slice a2 (O.length+1) c2)).setCell ⟨w1.heap.size,2,none⟩ (.slice a3 (R.length+1) c3)=dB at *;have QL:=U (show dV w1.heap.size dB w1.heap.size (.int .i64 (n:Int)) (.slice a2 (O.length+1) c2) (.slice a3 (R.length+1) c3) (.slice a2 (O.length+1) c2) (.slice a3 (R.length+1) c3) ((O++[l]).map Ma.ah) ((R++[rs]).map (List.map Ma.ah)) by rw [List.map_append,List.map_append]; exact Bx)
     have K2:=U GL;have J5:=U (pq.u.snoc fC.u (fun p=>J4.u p) QJ.u zI.u);clear Bx GL q1 q2 q3 KX FK FJ PD;go_wp2;go_roundw
     case rel=>exact ⟨k+1,_,_,O++[l],R++[rs],by go_num,ba.u,QL,K2,J5⟩
     case measure=>simp [intOf]; have:=ba.u; omega
  ·obtain rfl:k=n:=by omega
   have gY:¬ (k:Int)<(k:Int):=by omega
   have TT:=U (FT.u.p K1.u);go_upto_region 12 with fail;refine c6<|k8 (Rg.eK _ _ rfl ⟨w1.heap.size,0,none⟩ rfl (mq CH.u.gZ))<|Rg.aG none rfl rfl (Rg.ak _ _ _ rfl _ rfl _ rfl (aJ _ _ _ _ _ _ _ TT.u)) ?_;go_frame;have wV:=Rg.Kp.trans (Rg.Kp.trans (Rg.Kp.aR (M:=fun z=>z=w.heap.size) (w:=wr) (a:=⟨w.heap.size,0,none⟩) (v:=.int .i64 (k:Int)) rfl) (Rg.Kp.aR (M:=fun z=>z=w.heap.size) (a:=⟨w.heap.size,1,none⟩) (v:=(Value.slice dW O.length dX)) rfl) (fun _ _ e=>e)) (Rg.Kp.aR (M:=fun z=>z=w.heap.size) (a:=⟨w.heap.size,2,none⟩) (v:=(Value.slice dK R.length dL)) rfl) (fun _ _ e=>e);have bT:=CH.u.kp wV (fun z e=>by rw [e]; exact GC);have zK:=TT.u.set (.int .i64 (k:Int)) (Value.slice dW O.length dX) (Value.slice dK R.length dL);have py:=((((K.u.trans (K1.u.mono K.u.size)).setCell (p:=⟨w.heap.size,0,none⟩) (Nat.le_refl _) (.int .i64 (k:Int))).setCell (p:=⟨w.heap.size,1,none⟩) (Nat.le_refl _) (Value.slice dW O.length dX)).setCell (p:=⟨w.heap.size,2,none⟩) (Nat.le_refl _) (Value.slice dK R.length dL));have QM:=pq.u.Gy p9.u
   have GN:∀ (X:World) (c0 c1 c2 a b:Value),dV w1.heap.size X w1.heap.size c0 c1 c2 a b (O.map Ma.ah) (R.map (List.map Ma.ah))->aV (fun z=>w.heap.size<=z) X b (R.map (List.map Ma.ah)):=fun _ _ _ _ _ _ h=>by
    obtain ⟨us,h1,h2⟩:=h.frR (by rw [List.length_map,pq.u.iN]; omega);exact ⟨us,h1.mono (fun z hz=>by omega),bX.mono h2 (fun z hz=>by omega)⟩
   go_wp2;exact bodyPost_ret (iw rfl _ rfl zK) rfl ⟨_,_,rfl,O,aL.mono (bT.frO (by rw [List.length_map,pq.u.i_]; omega)) (fun z hz=>by omega),R,GN _ _ _ _ _ _ bT,QM,py⟩
end
section
open Go.Proofs.Ob
open Go.Proofs.Cm (Tr dg)
attribute [local irreducible] Go.Calls Go.wpList
theorem Eh (args:Array Value) (w:World):(callFunc 81 args).run Tryz.prog w=.ok (.enter 81 args) w:=by kernel_rfl
theorem XZ (args:Array Value) (w:World):(callFunc 145 args).run Tryz.prog w=.ok (.enter 145 args) w:=by kernel_rfl
theorem X0 (args:Array Value) (w:World):(callFunc 147 args).run Tryz.prog w=.ok (.enter 147 args) w:=by kernel_rfl
theorem X4 (args:Array Value) (w:World):(callFunc 148 args).run Tryz.prog w=.ok (.enter 148 args) w:=by kernel_rfl
theorem aV.mono {F F':Nat->Prop} {w:World} {v:Value} {gl:List (List (List Int))} (h:aV F w v gl) (hF:∀ k,F k->F' k):aV F' w v gl:=by
 obtain ⟨us,h1,h2⟩:=h;exact ⟨us,h1.mono hF,bX.mono h2 hF⟩
def X6 (B:Nat) (w:World) (cv:Value) (n:Nat) (gs:List (List Nat)):Prop:=∃ ov rv O R,cv=.agg #[.int .i64 ((n:Nat):Int),ov,rv]/\Rg.aL (fun z=>B<=z) w ov (O.map Ma.ah)/\aV (fun z=>B<=z) w rv (R.map (List.map Ma.ah))/\Cm.ar n (Cm.Gr n (·∈gs)) O R
def c_ (B:Nat) (w:World) (d:Int) (ll:List (List Int)) (cv:Value) (c:Int):Prop:=(c≠0/\cv=kH)∨(c=0/\∃ n gs,d=((n:Nat):Int)/\ll=gs.map Ma.ah/\1<=n/\n<=64/\X6 B w cv n gs)
theorem c_.kp {B:Nat} {M:Nat->Prop} {w w':World} {d:Int} {ll:List (List Int)} {cv:Value} {c:Int} (h:c_ B w d ll cv c) (hk:Rg.Kp M w w') (hM:∀ z,M z->z<B):c_ B w' d ll cv c:=by
 rcases h with h | ⟨h0,n,gs,h1,h2,h3,h4,ov,rv,O,R,h5,h6,h7,h8⟩
 ·exact .inl h
 ·exact .inr ⟨h0,n,gs,h1,h2,h3,h4,ov,rv,O,R,h5,aL.kp h6 hk (fun z g e=>by have:=hM z e; omega),h7.kp hk (fun z g e=>by have:=hM z e; omega),h8⟩
theorem c_.Ou {w:World} {c:Int} (h:c_ B w d ll cv c):pz w d ll cv c:=by
 rcases h with h | ⟨h0,n,gs,h1,h2,h3,h4,ov,rv,O,R,h5,h6,h7,h8⟩
 ·exact .inl h
 ·exact .inr ⟨h0,n,gs,h1,h2,h3,h4,ov,rv,O,R,h5,aL.rows h6,h7.rows,h8⟩
theorem pz.shape {w:World} {d:Int} {ll:List (List Int)} {cv:Value} {c:Int} (h:pz w d ll cv c):∃ e a n k a' n' k',cv=.agg #[.int .i64 e,.slice a n k,.slice a' n' k']:=by
 rcases h with ⟨_,rfl⟩ | ⟨h0,n,gs,h1,h2,h3,h4,ov,rv,O,R,h5,h6,h7,h8⟩
 ·exact ⟨_,_,_,_,_,_,_,rfl⟩
 ·obtain ⟨oa,oc,rfl,_⟩:=h6.shape
  obtain ⟨ra,rc,rfl⟩:=h7.shape;exact ⟨_,_,_,_,_,_,_,h5⟩
theorem GS.kg {F F':Nat->Prop} {w w':World} {v:Value} {gs:List (List Nat)} (h:GS F w v gs) (hk:KG F w F' w'):GS F' w' v gs:=by
 obtain ⟨a,c,e,h1⟩:=h;refine ⟨a,c,e,fun h0=>?_⟩;obtain ⟨b,o,e2,h2⟩:=h1 h0;refine ⟨b,o,e2,fun k dF=>?_⟩;obtain ⟨u,h3,h4⟩:=h2 k dF;exact ⟨u,h3.kg hk,h4.kg hk⟩
theorem GS.at {w:World} {b o c:Nat} (h:GS F w (.slice (some ⟨b,o,none⟩) n c) gs) {k:Nat} (hk:k<gs.length):∃ u,CF F w b (o+k) u/\FP F w u gs[k]:=by
 obtain ⟨a,c',e,h1⟩:=h;obtain ⟨b',o',e2,h2⟩:=h1 (by omega)
 injection e with e3 _ _
 rw [e2] at e3;simp only [Option.some.injEq,Addr.mk.injEq,and_true] at e3;obtain ⟨rfl,rfl⟩:=e3;exact h2 k hk
theorem Rf (aU:1<=n) (aZ:n<=64) (w:World) :
  Calls Tryz.prog 145 #[.int .i64 ((n:Nat):Int)] w fun e w'=>∃ tb c F Rb,e=.returned (.slice (some ⟨tb,0,none⟩) n c)/\KG (fun k=>k<w.heap.size) w F w'/\cy F tb 0 n w' (fun _ _=>none) Rb (fun _ _=>.slice none 0 0)/\BE w w':=by
 refine (J8 aU aZ w).mono ?_;rintro e w' ⟨tb,c,F,Rb,rfl,h1,h2⟩;exact ⟨tb,c,F,Rb,rfl,h1,h2,h1.kf.p (Nat.le_refl _) (fun _ h=>h)⟩
theorem Kn (gv:Value) (d:Int) (ll:List (List Int)) (w:World) (h:Rg.Rows w gv ll) :
  Calls Tryz.prog 115 #[.int .i64 d,gv] w fun e w'=>∃ cv,e=.returned (.tuple #[cv,.int .i64 (bK d ll)])/\c_ w.heap.size w' d ll cv (bK d ll)/\BE w w':=by
 obtain ⟨ga,gc,rfl,xX,MF,_,jr⟩:=h.shape;have G0:=U h;have qF:=U jr;have K:=U (bi w);clear h jr xX
 go_enter Tryz.func115,Tryz.ntmps115
 go_upto_region 0 with fail;refine c6 ?_;have bV:=cj.new w (.int .i64 0) (.slice none 0 0) (.slice none 0 0);refine k8 (bj rfl) ?_;go_frame;have hb:=be w (.cells #[.int .i64 0,.slice none 0 0,.slice none 0 0] 25);generalize w.alloc (.cells #[.int .i64 0,.slice none 0 0,.slice none 0 0] 25)=w1 at *;replace G0:=U (G0.u.p hb);replace K:=U (Rg.acc K.u hb);clear hb;have FT:=U bV;refine j7 rfl ?_;go_frame;clear bV;have K1:=U (bi w1);have KB:=K;clear K;have tG:=FT.u.lt
 by_cases X7:d<1
 ·have HC:=U (show bK d ll=2 by unfold bK; rw [if_neg (by omega)])
  go_upto_region 1 with fail;refine c6<|j7 rfl<|k8 (g8 (.bool true) .lss (h:=aI _ f7))<|k7 rfl<|f9 13 ?_;go_frame;refine f9 14<|k8 (i8 (.bool true)) ?_;go_frame;have fD:=U (FT.u.p K1.u);have KX:=U (KB.u.trans (K1.u.mono KB.u.size));go_upto_region 2 with fail;refine c6<|k8 (bF rfl)<|Rg.aG none rfl rfl (Rg.ak _ _ _ rfl _ rfl _ rfl (aJ _ _ _ _ _ _ _ fD.u))<|j7 rfl ?_;go_frame;have fZ:=gN fD.u KX.u (Nat.le_refl _);generalize ((w1.setCell ⟨w.heap.size,0,none⟩ (.int .i64 0)).setCell ⟨w.heap.size,1,none⟩ (.slice none 0 0)).setCell ⟨w.heap.size,2,none⟩ (.slice none 0 0)=dB at *
  have jE:=U (show ∃ cv,Ending.returned (.tuple #[kH,.int .i64 (2)])=.returned (.tuple #[cv,.int .i64 (bK d ll)])/\c_ w.heap.size dB d ll cv (bK d ll)/\BE w dB from
   ⟨_,by rw [HC.u],.inl ⟨by rw [HC.u]; decide,rfl⟩,fZ.2⟩)
  have my:=U fZ.1;clear fZ;go_wp2;exact bodyPost_ret (aO (p:=4) (u:=5) rfl _ rfl rfl my.u) rfl jE.u
 by_cases Ko:64<d
 ·have HC:=U (show bK d ll=2 by unfold bK; rw [if_neg (by omega)])
  go_upto_region 1 with fail;refine c6<|j7 rfl<|k8 (g8 (.bool false) .lss (h:=aI _ f8))<|k7 rfl<|j7 rfl ?_;go_frame;refine k8 (g8 (.bool true) .gtr (h:=bA _ f7))<|k8 (i7 (.bool true)) ?_;go_frame;have fD:=U (FT.u.p K1.u);have KX:=U (KB.u.trans (K1.u.mono KB.u.size));go_upto_region 2 with fail;refine c6<|k8 (bF rfl)<|Rg.aG none rfl rfl (Rg.ak _ _ _ rfl _ rfl _ rfl (aJ _ _ _ _ _ _ _ fD.u))<|j7 rfl ?_;go_frame;have fZ:=gN fD.u KX.u (Nat.le_refl _);generalize ((w1.setCell ⟨w.heap.size,0,none⟩ (.int .i64 0)).setCell ⟨w.heap.size,1,none⟩ (.slice none 0 0)).setCell ⟨w.heap.size,2,none⟩ (.slice none 0 0)=dB at *
  have jE:=U (show ∃ cv,Ending.returned (.tuple #[kH,.int .i64 (2)])=.returned (.tuple #[cv,.int .i64 (bK d ll)])/\c_ w.heap.size dB d ll cv (bK d ll)/\BE w dB from
   ⟨_,by rw [HC.u],.inl ⟨by rw [HC.u]; decide,rfl⟩,fZ.2⟩)
  have my:=U fZ.1;clear fZ;go_wp2;exact bodyPost_ret (aO (p:=4) (u:=5) rfl _ rfl rfl my.u) rfl jE.u
 have qP:1<=d/\d<=64:=by omega
 go_upto_region 1 with fail;refine c6<|j7 rfl<|k8 (g8 (.bool false) .lss (h:=aI _ f8))<|k7 rfl<|j7 rfl ?_;go_frame;refine k8 (g8 (.bool false) .gtr (h:=bA _ f8))<|k8 (i7 (.bool false)) ?_;go_frame
 by_cases hg1:4096<ll.length
 ·have HC:=U (show bK d ll=4 by unfold bK; rw [if_pos qP,if_neg (by omega)])
  go_upto_region 3 with fail;refine c6<|j8 rfl<|k8 (g9 Tryz.underlying41)<|k8 (g8 (.bool true) .gtr (h:=bA _ f7)) ?_;go_frame;have fD:=U (FT.u.p K1.u);have KX:=U (KB.u.trans (K1.u.mono KB.u.size));go_upto_region 4 with fail;refine c6<|k8 (bF rfl)<|Rg.aG none rfl rfl (Rg.ak _ _ _ rfl _ rfl _ rfl (aJ _ _ _ _ _ _ _ fD.u))<|j7 rfl ?_;go_frame;have fZ:=gN fD.u KX.u (Nat.le_refl _);generalize ((w1.setCell ⟨w.heap.size,0,none⟩ (.int .i64 0)).setCell ⟨w.heap.size,1,none⟩ (.slice none 0 0)).setCell ⟨w.heap.size,2,none⟩ (.slice none 0 0)=dB at *
  have jE:=U (show ∃ cv,Ending.returned (.tuple #[kH,.int .i64 (4)])=.returned (.tuple #[cv,.int .i64 (bK d ll)])/\c_ w.heap.size dB d ll cv (bK d ll)/\BE w dB from
   ⟨_,by rw [HC.u],.inl ⟨by rw [HC.u]; decide,rfl⟩,fZ.2⟩)
  have my:=U fZ.1;clear fZ;go_wp2;exact bodyPost_ret (aO (p:=4) (u:=5) rfl _ rfl rfl my.u) rfl jE.u
 have mz:=U (show bK d ll=Ma.jF d ll by unfold bK; rw [if_pos qP,if_pos (by omega)]);have nO:=U (show Ma.jF d (ll.drop 0)=Ma.jF d ll by rw [List.drop_zero]);go_upto_region 3 with fail;refine c6<|j8 rfl<|k8 (g9 Tryz.underlying41)<|k8 (g8 (.bool false) .gtr (h:=bA _ f8)) ?_;go_frame;go_wp2
 go_loopw [6] (fun kv wr=>∃ k:Nat,kv=.int .i64 k/\k<=ll.length/\Hid (BE w1 wr)/\Hid (Ma.jF d (ll.drop k)=Ma.jF d ll)) (fun kv _=>ll.length - (intOf kv).toNat)
 case atStart=>exact ⟨0,rfl,Nat.zero_le _,K1,nO⟩
 case round =>
  clear K1 nO;obtain ⟨k,rfl,hk,K1,nO⟩:=hrel
  by_cases b_:k<ll.length
  ·have gY:(k:Int)<(ll.length:Int):=by omega
   have jr:=qF.u;obtain ⟨gb,go,rfl,tM,Gs⟩:=jr (by omega);obtain ⟨u,oC,vk⟩:=Gs k b_;obtain ⟨x,hx⟩:∃ x,Hid (ll[k]=x):=⟨_,U rfl⟩;rw [hx.u] at vk;have CU:=U (CL.mk ((KB.u.cell (p:=⟨gb,go+k,none⟩) tM).trans oC) (Nat.lt_of_lt_of_le tM KB.u.size));have XU:=U (Rg.Ints.p vk KB.u);obtain ⟨xa,xc,rfl,_⟩:=vk.shape;have ba:=U b_;have qe:=XU.u.len;have X_:=U (show x.length<=1000000000 by obtain ⟨n,a,c,e,_,e2⟩:=qe; omega);clear jr Gs oC vk qe tM;go_upto_region 8 with fail;refine c6<|j8 rfl<|j7 rfl<|k8 (ag aM _ _ rfl gb (go) (ll.length) gc (k) rfl rfl ba.u)<|k8 (g7 (.slice xa x.length xc) ⟨gb,go+k,none⟩ (Rg.ae _ _ Tryz.underlying27 ((Below.cell (p:=⟨gb,go+k,none⟩) K1.u CU.u.lt).trans CU.u.cell))) ?_;go_frame;refine f4 31 (aA 81 _ _ rfl rfl (Eh _ _)) ?_;refine (gT _ _ wr (XU.u.p K1.u)).mono ?_;rintro e1 gA ⟨rfl,hb⟩;refine ⟨_,rfl,?_⟩;go_frame;replace K1:=U (Rg.acc K1.u hb);clear hb;refine j7 rfl ?_;go_frame
   by_cases qd:Ma.bY x=0
   ·by_cases Rh:(x.length:Int)=d
    ·skip
     go_upto_region 9 with fail;refine c6<|j7 rfl<|k8 (g8 (.bool false) .neq (h:=aE _ f8)) ?_;go_frame;go_upto_region 11 with fail;refine c6<|j8 rfl<|j7 rfl<|k8 (ag aM _ _ rfl gb (go) (ll.length) gc (k) rfl rfl ba.u)<|k8 (g7 (.slice xa x.length xc) ⟨gb,go+k,none⟩ (Rg.ae _ _ Tryz.underlying27 ((Below.cell (p:=⟨gb,go+k,none⟩) K1.u CU.u.lt).trans CU.u.cell))) ?_;go_frame;refine k8 (g9 Tryz.underlying27)<|j7 rfl<|k8 (g8 (.bool false) .neq (h:=aE _ f8)) ?_;go_frame;have Ya:=U (show Ma.jF d (ll.drop (k+1))=Ma.jF d ll by rw [<- Ma.Cj ba.u (by rw [hx.u]; exact qd) (by rw [hx.u]; exact Rh)]; exact nO.u);go_wp2;go_roundw
     case rel=>exact ⟨k+1,by go_num,ba.u,K1,Ya⟩
     case measure=>simp [intOf]; have:=ba.u; omega
    ·have HC:=U (show bK d ll=10 by rw [mz.u,<- nO.u]; exact Ma.Fl ba.u (by rw [hx.u]; exact qd) (by rw [hx.u]; exact Rh))
     go_upto_region 9 with fail;refine c6<|j7 rfl<|k8 (g8 (.bool false) .neq (h:=aE _ f8)) ?_;go_frame;go_upto_region 11 with fail;refine c6<|j8 rfl<|j7 rfl<|k8 (ag aM _ _ rfl gb (go) (ll.length) gc (k) rfl rfl ba.u)<|k8 (g7 (.slice xa x.length xc) ⟨gb,go+k,none⟩ (Rg.ae _ _ Tryz.underlying27 ((Below.cell (p:=⟨gb,go+k,none⟩) K1.u CU.u.lt).trans CU.u.cell))) ?_;go_frame;refine k8 (g9 Tryz.underlying27)<|j7 rfl<|k8 (g8 (.bool true) .neq (h:=aE _ f7)) ?_;go_frame;have fD:=U (FT.u.p K1.u);have KX:=U (KB.u.trans (K1.u.mono KB.u.size));go_upto_region 12 with fail;refine c6<|k8 (bF rfl)<|Rg.aG none rfl rfl (Rg.ak _ _ _ rfl _ rfl _ rfl (aJ _ _ _ _ _ _ _ fD.u))<|j7 rfl ?_;go_frame;have fZ:=gN fD.u KX.u (Nat.le_refl _);generalize ((gA.setCell ⟨w.heap.size,0,none⟩ (.int .i64 0)).setCell ⟨w.heap.size,1,none⟩ (.slice none 0 0)).setCell ⟨w.heap.size,2,none⟩ (.slice none 0 0)=dB at *
     have jE:=U (show ∃ cv,Ending.returned (.tuple #[kH,.int .i64 (10)])=.returned (.tuple #[cv,.int .i64 (bK d ll)])/\c_ w.heap.size dB d ll cv (bK d ll)/\BE w dB from
      ⟨_,by rw [HC.u],.inl ⟨by rw [HC.u]; decide,rfl⟩,fZ.2⟩)
     have my:=U fZ.1;clear fZ;go_wp2;exact bodyPost_ret (aO (p:=4) (u:=5) rfl _ rfl rfl my.u) rfl jE.u
   ·have HC:=U (show bK d ll=Ma.bY x by rw [mz.u,<- nO.u,Ma.Fj ba.u (by rw [hx.u]; exact qd),hx.u])
    go_upto_region 9 with fail;refine c6<|j7 rfl<|k8 (g8 (.bool true) .neq (h:=aE _ f7)) ?_;go_frame;have fD:=U (FT.u.p K1.u);have KX:=U (KB.u.trans (K1.u.mono KB.u.size));go_upto_region 10 with fail;refine c6<|k8 (bF rfl)<|j7 rfl<|Rg.aG none rfl rfl (Rg.ak _ _ _ rfl _ rfl _ rfl (aJ _ _ _ _ _ _ _ fD.u))<|j7 rfl ?_;go_frame;have fZ:=gN fD.u KX.u (Nat.le_refl _);generalize ((gA.setCell ⟨w.heap.size,0,none⟩ (.int .i64 0)).setCell ⟨w.heap.size,1,none⟩ (.slice none 0 0)).setCell ⟨w.heap.size,2,none⟩ (.slice none 0 0)=dB at *
    have jE:=U (show ∃ cv,Ending.returned (.tuple #[kH,.int .i64 (Ma.bY x)])=.returned (.tuple #[cv,.int .i64 (bK d ll)])/\c_ w.heap.size dB d ll cv (bK d ll)/\BE w dB from
     ⟨_,by rw [HC.u],.inl ⟨by rw [HC.u]; exact qd,rfl⟩,fZ.2⟩)
    have my:=U fZ.1;clear fZ;go_wp2;exact bodyPost_ret (aO (p:=4) (u:=5) rfl _ rfl rfl my.u) rfl jE.u
  ·obtain rfl:k=ll.length:=by omega
   have gY:¬ (ll.length:Int)<(ll.length:Int):=by omega
   have hz:=nO.u;rw [Ma.Fm (Nat.le_refl _)] at hz;obtain ⟨n,gs,UM,ss,eH,aU,aZ,kE⟩:=QN qP.1 qP.2 hz.symm;have tK:=U ss;have BB:=U kE;have je:=U eH;have HC:=U (show bK d ll=0 by rw [mz.u]; exact hz.symm);subst UM;have fD:=U (FT.u.p K1.u);have KX:=U (KB.u.trans (K1.u.mono KB.u.size));have GR:=U (Rg.Rows.p G0.u K1.u);clear ss kE eH hz;have HWD:=U fD.u.lt;have Yb:=KX;have WH:GS (fun k=>k<wr.heap.size) wr (.slice ga ll.length gc) gs:=GS.Gq (by have:=GR.u; rw [show gs.map Ma.ah=ll from tK.u.symm]; exact this);go_upto_region 13 with fail;refine c6<|j7 rfl ?_;go_frame;refine f4 45 (aA 145 _ _ rfl rfl (XZ _ _)) ?_;refine (Rf aU aZ wr).mono ?_;rintro e1 fB ⟨tb,tc,F0,Rb,rfl,eE,m_,hb⟩;have GE:=U (WH.kg eE);have TE:=U m_;have Rl:=U eE;clear eE m_ WH;refine ⟨_,rfl,?_⟩;go_frame;replace fD:=U (fD.u.p hb);replace GR:=U (GR.u.p hb);replace KX:=U (Rg.acc KX.u hb);clear hb;refine j8 rfl ?_;go_frame;obtain ⟨wB,hwB⟩:∃ W,Hid (W=wr):=⟨_,U rfl⟩;rw [<- hwB.u] at Rl HWD Yb;clear hwB GR;have KE:=U (KG.refl TE.u.eP);have OK0:=U (Cm.dg.QO (n:=n) (gs:=(·∈gs)));have jS:=U (show ∀ a (h:a<gs.length),a<0->Cm.Sd n (Cm.cL n (fun _ _=>none)) n gs[a] from fun a _ h=>absurd h (Nat.not_lt_zero _));have HGN:=BB;go_wp2
   go_loopw [9] (fun jv wr=>∃ (j:Nat) (F1:Nat->Prop) (V:Nat->Nat->Value) (tr:Tr),jv=.int .i64 j/\j<=ll.length/\Hid (cy F1 tb 0 n wr tr Rb V)/\Hid (KG F0 fB F1 wr)/\Hid (dg n (·∈gs) tr)/\Hid (∀ a (h:a<gs.length),a<j->Cm.Sd n (Cm.cL n tr) n gs[a])) (fun jv _=>ll.length - (intOf jv).toNat)
   case atStart=>exact ⟨0,_,_,_,rfl,Nat.zero_le _,TE,KE,OK0,jS⟩
   case round =>
    clear TE KE OK0 jS;obtain ⟨j,F,V,tr,rfl,hj,HT,KE,OK,HS⟩:=hrel
    by_cases wZ:j<ll.length
    ·have yG:(j:Int)<(ll.length:Int):=by omega
     have pC:=U wZ
     have Rm:j<gs.length:=by have:=HGN.u; omega
     have HJG:=U Rm
     have DO:∃ gb go,ga=some ⟨gb,go,none⟩:=by
      obtain ⟨a,c,e,h1⟩:=GE.u;obtain ⟨b,o,e2,_⟩:=h1 (by omega)
      injection e with e _ _
      exact ⟨b,o,e.trans e2⟩
     obtain ⟨gb,go,rfl⟩:=DO;obtain ⟨u,oC,vk⟩:=GE.u.at Rm;obtain ⟨x,hx⟩:∃ x:List Nat,Hid (gs[j]'Rm=x):=⟨_,U rfl⟩
     replace vk:FP F0 fB u x:=by rw [<- hx.u]; exact vk
     have GX:=U (show Cm.Gd n x by rw [<- hx.u]; exact je.u _ (List.getElem_mem Rm));have G5:Cm.Gr n (·∈gs) x:=.gen _ (by rw [<- hx.u]; exact List.getElem_mem Rm);have CU:=U (oC.kg KE.u);have XU:=U (vk.kg KE.u);have lL:=vd je.u OK.u G5;clear oC vk G5;go_upto_region 17 with fail;refine c6<|j8 rfl<|j8 rfl<|j7 rfl<|k8 (ag aM _ _ rfl gb (go) (ll.length) gc (j) rfl rfl pC.u) ?_;go_frame;refine k8 (g7 (u) ⟨gb,go+j,none⟩ (Rg.ae _ _ Tryz.underlying27 CU.u.cell)) ?_;go_frame;refine f4 57 (ax 146 _ _ _ rfl rfl rfl (Kc _ _)) ?_;refine (qK aU aZ HT.u OK.u.rp XU.u GX.u).mono ?_;rintro e1 Hd ⟨F9,V9,rfl,n7,m_⟩;have eE:=n7.kg;refine ⟨_,rfl,?_⟩;go_frame;clear HT;clear CU;clear XU;replace KE:=U (KE.u.trans eE);have HT:=U m_;clear eE;clear n7 m_;generalize lK n tr (Cm.dn n (Cm.cL n tr) n x)=qO at *;have zP:=U lL.1
     have Od:=U (show ∀ a (h:a<gs.length),a<j+1->Cm.Sd n (Cm.cL n qO) n gs[a] from fun a h ha=>by
      by_cases e:a=j
      ·subst e
       rw [show gs[a]=x from hx.u]; exact lL.2.2.1
      ·exact Cm.Sd.mono (fun i p u _=>lL.2.1 i p u) (HS.u a h (by omega)))
     clear lL;go_wp2;go_roundw
     case rel=>exact ⟨j+1,_,_,_,by go_num,pC.u,HT,KE,zP,Od⟩
     case measure=>simp [intOf]; have:=pC.u; omega
    ·obtain rfl:j=ll.length:=by omega
     have yG:¬ (ll.length:Int)<(ll.length:Int):=by omega
     have HSA:=U (show ∀ s,s∈gs->Cm.Sd n (Cm.cL n tr) n s from fun s hs=>by
      obtain ⟨a,ha,rfl⟩:=List.getElem_of_mem hs
      exact HS.u a ha (by have:=HGN.u; omega))
     go_upto_region 18 with fail;refine c6<|j8 rfl ?_;go_frame;refine f4 59 (aA 147 _ _ rfl rfl (X0 _ _)) ?_;refine (G3 aU aZ HT.u je.u OK.u HSA.u).mono ?_;rintro e1 kn ⟨F9,V9,tr9,rfl,eE,m_,WI,WJ⟩;have OK9:=U WI;have TR9:=U WJ;clear WI WJ;refine ⟨_,rfl,?_⟩;go_frame;clear HT;replace KE:=U (KE.u.trans eE);have HT:=U m_;clear eE;clear m_;have nK:BE wB kn:=(Rl.u.trans KE.u).kf.p (Nat.le_refl _) (fun _ h=>h);have Ov:BE wB fB:=Rl.u.kf.p (Nat.le_refl _) (fun _ h=>h);have Rn:=U (show cj kn w.heap.size (.int .i64 0) (.slice none 0 0) (.slice none 0 0) from fD.u.kp KE.u.kf (fun h=>h (Rl.u.sub _ HWD.u)));have KY:=U (show BE w kn from (Yb.u.trans (nK.mono Yb.u.size)));clear nK Ov fD KX KE Rl;go_upto_region 19 with fail;refine c6<|j8 rfl ?_;go_frame;have fO:=U Rn.u.lt;refine f4 61 (aA 148 _ _ rfl rfl (X4 _ _)) ?_;refine (G_ aU aZ HT.u je.u OK9.u TR9.u).mono ?_;rintro e1 U8 ⟨ov,rv,O,R,rfl,hO,hR,Hh,hb⟩;have vn:=U (Nat.lt_of_lt_of_le fO.u hb.size);obtain ⟨oa,oc,rfl,_⟩:=hO.rows.shape;obtain ⟨ra,rc,rfl⟩:=hR.rows.shape;have HO:=U hO;have HR:=U hR;have dc:=U Hh;clear hO hR Hh;refine ⟨_,rfl,?_⟩;go_frame;replace Rn:=U (Rn.u.p hb);replace HT:=U (HT.u.p hb);replace KY:=U (Rg.acc KY.u hb);clear hb;refine Rg.aG none rfl rfl (Rg.ak _ _ _ rfl _ rfl _ rfl (aJ _ _ _ _ _ _ _ Rn.u))<|j7 rfl ?_;go_frame;have zK:=Rn.u.set (.int .i64 (n:Int)) (.slice oa (O.map Ma.ah).length oc) (.slice ra (R.map (List.map Ma.ah)).length rc);have wV:=Rg.Kp.trans (Rg.Kp.trans (Rg.Kp.aR (M:=fun z=>z=w.heap.size) (w:=U8) (a:=⟨w.heap.size,0,none⟩) (v:=.int .i64 (n:Int)) rfl) (Rg.Kp.aR (M:=fun z=>z=w.heap.size) (a:=⟨w.heap.size,1,none⟩) (v:=(.slice oa (O.map Ma.ah).length oc)) rfl) (fun _ _ e=>e)) (Rg.Kp.aR (M:=fun z=>z=w.heap.size) (a:=⟨w.heap.size,2,none⟩) (v:=(.slice ra (R.map (List.map Ma.ah)).length rc)) rfl) (fun _ _ e=>e);have hro:=aL.mono (F':=fun z=>w.heap.size<=z) (aL.kp HO.u wV (fun z g e=>by have:=fO.u; omega)) (fun z hz=>by have:=fO.u; omega);have Ro:=(HR.u.kp wV (fun z g e=>by have:=fO.u; omega)).mono (F':=fun z=>w.heap.size<=z) (fun z hz=>by have:=fO.u; omega)
     have py:=((KY.u.setCell (p:=⟨w.heap.size,0,none⟩) (Nat.le_refl _) (.int .i64 (n:Int))).setCell (p:=⟨w.heap.size,1,none⟩) (Nat.le_refl _) (.slice oa (O.map Ma.ah).length oc)).setCell (p:=⟨w.heap.size,2,none⟩) (Nat.le_refl _) (.slice ra (R.map (List.map Ma.ah)).length rc);generalize ((U8.setCell ⟨w.heap.size,0,none⟩ (.int .i64 (n:Int))).setCell ⟨w.heap.size,1,none⟩ (.slice oa (O.map Ma.ah).length oc)).setCell ⟨w.heap.size,2,none⟩ (.slice ra (R.map (List.map Ma.ah)).length rc)=dB at *;have my:=U zK
     have jE:=U (show ∃ cv,Ending.returned (.tuple #[.agg #[.int .i64 ((n:Nat):Int),(.slice oa (O.map Ma.ah).length oc),(.slice ra (R.map (List.map Ma.ah)).length rc)],.int .i64 0])=.returned (.tuple #[cv,.int .i64 (bK ((n:Nat):Int) ll)])/\c_ w.heap.size dB ((n:Nat):Int) ll cv (bK ((n:Nat):Int) ll)/\BE w dB from
      ⟨_,by rw [HC.u],.inr ⟨HC.u,n,gs,rfl,tK.u,aU,aZ,_,_,O,R,rfl,hro,Ro,dc.u⟩,py⟩)
     clear zK wV hro Ro py;go_wp2;exact bodyPost_ret (aO (p:=4) (u:=5) rfl _ rfl rfl my.u) rfl jE.u
end
section
open Go.Proofs.Ob
attribute [local irreducible] Go.Calls Go.wpList
theorem kJ {o:Oper} {a:Act} {w:World} (F:FuncId) (x y f:Operand) (qu:Array TypeId) (ho:o.op=.call { callee:=.value f,args:=#[x,y],argTypes:=qu }) (hf:a.eval f=.func (.func F) #[] #[]) (hx:a.eval x=u1) (hy:a.eval y=u2)
  (hF:(callFunc F #[u1,u2]).run Tryz.prog w=.ok (.enter F #[u1,u2]) w):(execOp a.eval o).run Tryz.prog w=.ok (.enter F #[u1,u2]) w:=by
 unfold execOp;simp [ho,hx,hy,hf,resolve,invoke,Deferred.ofValue,hF]
def zT (F:FuncId) (w0:World) (us vs:List Value) (p:Nat->Bool):Prop:=∀ i (h:i<us.length) (h2:i<vs.length) (W:World),BE w0 W->Calls Tryz.prog F #[us[i],vs[i]] W fun e W'=>e=.returned (.bool (p i))/\BE W W'
def jV (m n:Nat) (p:Nat->Bool):Bool:=m == n && (List.range m).all p
theorem tN {m:Nat} {p:Nat->Bool} (h:m≠n):jV m n p=false:=by unfold jV; simp [h]
theorem tO {m:Nat} {p:Nat->Bool} (h:(List.range m).all p=true):jV m m p=true:=by unfold jV; simp [h]
theorem w_ {m:Nat} {p:Nat->Bool} {k:Nat} (hk:k<m) (h:p k=false):jV m m p=false:=by
 unfold jV;rw [Bool.and_eq_false_iff]
 right
 rw [List.all_eq_false];exact ⟨k,List.mem_range.2 hk,by simp [h]⟩
theorem mA {p:Nat->Bool} {k:Nat} (h:(List.range k).all p=true) (h2:p k=true):(List.range (k+1)).all p=true:=by
 rw [List.range_succ,List.all_append];simp [h,h2]
theorem Kq {m:Nat} {p:Nat->Bool}:jV m n p=true↔m=n/\∀ i,i<m->p i=true:=by
 unfold jV;simp
theorem zU {α:Type} [DecidableEq α] {l m:List α} {p:Nat->Bool} (h:∀ i (h1:i<l.length) (h2:i<m.length),p i=decide (l[i]=m[i])):jV l.length m.length p=decide (l=m):=by
 rw [Bool.eq_iff_iff,Kq,decide_eq_true_iff]
 constructor
 ·rintro ⟨h1,h2⟩
  refine List.ext_getElem h1 fun i a b=>?_;have:=h2 i a;rw [h i a b] at this;exact of_decide_eq_true this
 ·rintro rfl
  exact ⟨rfl,fun i hi=>by rw [h i hi hi]; simp⟩
theorem Ei {va vb:Value} {us vs:List Value} {w:World} (h1:Rg.cH w va us) (h2:Rg.cH w vb vs) (F:FuncId) (hF:∀ args W,(callFunc F args).run Tryz.prog W=.ok (.enter F args) W) {p:Nat->Bool} (hp:zT F w us vs p) :
  Calls Tryz.prog 125 #[va,vb,.func (.func F) #[] #[]] w fun e w'=>e=.returned (.bool (jV us.length vs.length p))/\BE w w':=by
 obtain ⟨ad,cap,rfl,_,_,Bk,aP⟩:=h1;obtain ⟨Bj,lH,rfl,_,_,vp,dy⟩:=h2;unfold Rg.oY at Bk vp;have Hc:=U aP;have Ej:=U dy;have HP:=U hp;have K:=U (bi w);clear aP dy hp
 go_enter Tryz.func125,Tryz.ntmps125
 by_cases hne:us.length=vs.length
 ·have Hi:(us.length:Int)=(vs.length:Int):=by omega
  have sw:=U hne;go_upto_region 1 with fail;refine c6<|j8 rfl<|k8 (g9 Tryz.underlying22)<|j8 rfl<|k8 (g9 Tryz.underlying22) ?_;go_frame;refine k8 (g8 (.bool false) .neq (h:=aE _ f8)) ?_;go_frame;have HA:=U (show (List.range 0).all p=true from rfl);go_wp2
  go_loopw [17] (fun kv wr=>∃ k:Nat,kv=.int .i64 k/\k<=us.length/\Hid ((List.range k).all p=true)/\Hid (BE w wr)) (fun kv _=>us.length - (intOf kv).toNat)
  case atStart=>exact ⟨0,rfl,Nat.zero_le _,HA,K⟩
  case round =>
   clear HA K;obtain ⟨k,rfl,hk,HA,K⟩:=hrel
   by_cases b_:k<us.length
   ·have gY:(k:Int)<(us.length:Int):=by omega
    have lI:k<vs.length:=by omega
    have ba:=U b_;have xY:=U lI;obtain ⟨b,o,rfl,hb,hc⟩:=Hc.u (by omega);obtain ⟨b2,o2,rfl,dh,gI⟩:=Ej.u (by omega);obtain ⟨x,hx⟩:∃ x:Value,Hid (us[k]'b_=x):=⟨_,U rfl⟩;obtain ⟨y,hy⟩:∃ y:Value,Hid (vs[k]'lI=y):=⟨_,U rfl⟩;have CX:=U (CL.mk (show w.cell? ⟨b,o+k,none⟩=some x by rw [<- hx.u]; exact hc k b_) hb);have CY:=U (CL.mk (show w.cell? ⟨b2,o2+k,none⟩=some y by rw [<- hy.u]; exact gI k lI) dh);have kt:=HP.u k b_ lI wr K.u;rw [show us[k]=x from hx.u,show vs[k]=y from hy.u] at kt;have HK:=U kt;clear hc gI kt hb dh
    cases gW:p k with
    | true =>
     have HPK:=U gW;rw [gW] at HK;have fC:=U (mA HA.u gW);clear gW;go_upto_region 5 with fail;refine c6<|j7 rfl<|k8 (ag bM _ _ rfl b (o) (us.length) cap (k) rfl rfl ba.u)<|k8 (g7 (x) ⟨b,o+k,none⟩ (Rg.ae _ _ Tryz.underlying26 ((Below.cell (p:=⟨b,o+k,none⟩) K.u CX.u.lt).trans CX.u.cell)))<|j7 rfl ?_;go_frame;refine j6 (x) rfl ?_;go_frame;go_upto_region 6 with fail;refine c6<|j8 rfl<|j7 rfl<|k8 (ag bM _ _ rfl b2 (o2) (vs.length) lH (k) rfl rfl xY.u)<|k8 (g7 (y) ⟨b2,o2+k,none⟩ (Rg.ae _ _ Tryz.underlying26 ((Below.cell (p:=⟨b2,o2+k,none⟩) K.u CY.u.lt).trans CY.u.cell))) ?_;go_frame;refine j6 (y) rfl ?_;go_frame;go_upto_region 7 with fail;refine c6<|j6 (.func (.func F) #[] #[]) rfl<|j6 (x) rfl<|j6 (y) rfl ?_;go_frame;refine f4 29 (kJ F _ _ _ _ rfl rfl rfl rfl (hF _ _)) ?_;refine (HK.u).mono ?_;rintro e1 gA ⟨rfl,hb⟩;refine ⟨_,rfl,?_⟩;go_frame;replace K:=U (Rg.acc K.u hb);clear hb;refine k8 (bw _ _ true rfl rfl) ?_;go_frame;go_wp2;go_roundw
     case rel=>exact ⟨k+1,by go_num,ba.u,fC,K⟩
     case measure=>simp [intOf]; have:=ba.u; omega
    | false =>
     rw [gW] at HK;have HR:=U (w_ b_ gW);clear gW;go_upto_region 5 with fail;refine c6<|j7 rfl<|k8 (ag bM _ _ rfl b (o) (us.length) cap (k) rfl rfl ba.u)<|k8 (g7 (x) ⟨b,o+k,none⟩ (Rg.ae _ _ Tryz.underlying26 ((Below.cell (p:=⟨b,o+k,none⟩) K.u CX.u.lt).trans CX.u.cell)))<|j7 rfl ?_;go_frame;refine j6 (x) rfl ?_;go_frame;go_upto_region 6 with fail;refine c6<|j8 rfl<|j7 rfl<|k8 (ag bM _ _ rfl b2 (o2) (vs.length) lH (k) rfl rfl xY.u)<|k8 (g7 (y) ⟨b2,o2+k,none⟩ (Rg.ae _ _ Tryz.underlying26 ((Below.cell (p:=⟨b2,o2+k,none⟩) K.u CY.u.lt).trans CY.u.cell))) ?_;go_frame;refine j6 (y) rfl ?_;go_frame;go_upto_region 7 with fail;refine c6<|j6 (.func (.func F) #[] #[]) rfl<|j6 (x) rfl<|j6 (y) rfl ?_;go_frame;refine f4 29 (kJ F _ _ _ _ rfl rfl rfl rfl (hF _ _)) ?_;refine (HK.u).mono ?_;rintro e1 gA ⟨rfl,hb⟩;refine ⟨_,rfl,?_⟩;go_frame;replace K:=U (Rg.acc K.u hb);clear hb;refine k8 (bw _ _ false rfl rfl) ?_;go_frame;go_wp2;go_ret;exact ⟨by rw [<- sw.u,HR.u]; rfl,K.u⟩
   ·obtain rfl:k=us.length:=by omega
    have gY:¬ (us.length:Int)<(us.length:Int):=by omega
    have HR:=U (tO HA.u);go_wp2;go_ret;exact ⟨by rw [<- sw.u,HR.u]; rfl,K.u⟩
 ·have Hi:¬ (us.length:Int)=(vs.length:Int):=by omega
  have HR:=U (tN (p:=p) hne);go_upto_region 1 with fail;refine c6<|j8 rfl<|k8 (g9 Tryz.underlying22)<|j8 rfl<|k8 (g9 Tryz.underlying22) ?_;go_frame;refine k8 (g8 (.bool true) .neq (h:=aE _ f7)) ?_;go_frame;go_wp2;go_ret;exact ⟨by rw [HR.u]; rfl,K.u⟩
theorem Ek {va vb:Value} {us vs:List Value} {w:World} (h1:Rg.cH w va us) (h2:Rg.cH w vb vs) (F:FuncId) (hF:∀ args W,(callFunc F args).run Tryz.prog W=.ok (.enter F args) W) {p:Nat->Bool} (hp:zT F w us vs p) :
  Calls Tryz.prog 127 #[va,vb,.func (.func F) #[] #[]] w fun e w'=>e=.returned (.bool (jV us.length vs.length p))/\BE w w':=by
 obtain ⟨ad,cap,rfl,_,_,Bk,aP⟩:=h1;obtain ⟨Bj,lH,rfl,_,_,vp,dy⟩:=h2;unfold Rg.oY at Bk vp;have Hc:=U aP;have Ej:=U dy;have HP:=U hp;have K:=U (bi w);clear aP dy hp
 go_enter Tryz.func127,Tryz.ntmps127
 by_cases hne:us.length=vs.length
 ·have Hi:(us.length:Int)=(vs.length:Int):=by omega
  have sw:=U hne;go_upto_region 1 with fail;refine c6<|j8 rfl<|k8 (g9 Tryz.underlying23)<|j8 rfl<|k8 (g9 Tryz.underlying23) ?_;go_frame;refine k8 (g8 (.bool false) .neq (h:=aE _ f8)) ?_;go_frame;have HA:=U (show (List.range 0).all p=true from rfl);go_wp2
  go_loopw [17] (fun kv wr=>∃ k:Nat,kv=.int .i64 k/\k<=us.length/\Hid ((List.range k).all p=true)/\Hid (BE w wr)) (fun kv _=>us.length - (intOf kv).toNat)
  case atStart=>exact ⟨0,rfl,Nat.zero_le _,HA,K⟩
  case round =>
   clear HA K;obtain ⟨k,rfl,hk,HA,K⟩:=hrel
   by_cases b_:k<us.length
   ·have gY:(k:Int)<(us.length:Int):=by omega
    have lI:k<vs.length:=by omega
    have ba:=U b_;have xY:=U lI;obtain ⟨b,o,rfl,hb,hc⟩:=Hc.u (by omega);obtain ⟨b2,o2,rfl,dh,gI⟩:=Ej.u (by omega);obtain ⟨x,hx⟩:∃ x:Value,Hid (us[k]'b_=x):=⟨_,U rfl⟩;obtain ⟨y,hy⟩:∃ y:Value,Hid (vs[k]'lI=y):=⟨_,U rfl⟩;have CX:=U (CL.mk (show w.cell? ⟨b,o+k,none⟩=some x by rw [<- hx.u]; exact hc k b_) hb);have CY:=U (CL.mk (show w.cell? ⟨b2,o2+k,none⟩=some y by rw [<- hy.u]; exact gI k lI) dh);have kt:=HP.u k b_ lI wr K.u;rw [show us[k]=x from hx.u,show vs[k]=y from hy.u] at kt;have HK:=U kt;clear hc gI kt hb dh
    cases gW:p k with
    | true =>
     have HPK:=U gW;rw [gW] at HK;have fC:=U (mA HA.u gW);clear gW;go_upto_region 5 with fail;refine c6<|j7 rfl<|k8 (ag bG _ _ rfl b (o) (us.length) cap (k) rfl rfl ba.u)<|k8 (g7 (x) ⟨b,o+k,none⟩ (Rg.ae _ _ Tryz.underlying41 ((Below.cell (p:=⟨b,o+k,none⟩) K.u CX.u.lt).trans CX.u.cell)))<|j7 rfl ?_;go_frame;refine j6 (x) rfl ?_;go_frame;go_upto_region 6 with fail;refine c6<|j8 rfl<|j7 rfl<|k8 (ag bG _ _ rfl b2 (o2) (vs.length) lH (k) rfl rfl xY.u)<|k8 (g7 (y) ⟨b2,o2+k,none⟩ (Rg.ae _ _ Tryz.underlying41 ((Below.cell (p:=⟨b2,o2+k,none⟩) K.u CY.u.lt).trans CY.u.cell))) ?_;go_frame;refine j6 (y) rfl ?_;go_frame;go_upto_region 7 with fail;refine c6<|j6 (.func (.func F) #[] #[]) rfl<|j6 (x) rfl<|j6 (y) rfl ?_;go_frame;refine f4 29 (kJ F _ _ _ _ rfl rfl rfl rfl (hF _ _)) ?_;refine (HK.u).mono ?_;rintro e1 gA ⟨rfl,hb⟩;refine ⟨_,rfl,?_⟩;go_frame;replace K:=U (Rg.acc K.u hb);clear hb;refine k8 (bw _ _ true rfl rfl) ?_;go_frame;go_wp2;go_roundw
     case rel=>exact ⟨k+1,by go_num,ba.u,fC,K⟩
     case measure=>simp [intOf]; have:=ba.u; omega
    | false =>
     rw [gW] at HK;have HR:=U (w_ b_ gW);clear gW;go_upto_region 5 with fail;refine c6<|j7 rfl<|k8 (ag bG _ _ rfl b (o) (us.length) cap (k) rfl rfl ba.u)<|k8 (g7 (x) ⟨b,o+k,none⟩ (Rg.ae _ _ Tryz.underlying41 ((Below.cell (p:=⟨b,o+k,none⟩) K.u CX.u.lt).trans CX.u.cell)))<|j7 rfl ?_;go_frame;refine j6 (x) rfl ?_;go_frame;go_upto_region 6 with fail;refine c6<|j8 rfl<|j7 rfl<|k8 (ag bG _ _ rfl b2 (o2) (vs.length) lH (k) rfl rfl xY.u)<|k8 (g7 (y) ⟨b2,o2+k,none⟩ (Rg.ae _ _ Tryz.underlying41 ((Below.cell (p:=⟨b2,o2+k,none⟩) K.u CY.u.lt).trans CY.u.cell))) ?_;go_frame;refine j6 (y) rfl ?_;go_frame;go_upto_region 7 with fail;refine c6<|j6 (.func (.func F) #[] #[]) rfl<|j6 (x) rfl<|j6 (y) rfl ?_;go_frame;refine f4 29 (kJ F _ _ _ _ rfl rfl rfl rfl (hF _ _)) ?_;refine (HK.u).mono ?_;rintro e1 gA ⟨rfl,hb⟩;refine ⟨_,rfl,?_⟩;go_frame;replace K:=U (Rg.acc K.u hb);clear hb;refine k8 (bw _ _ false rfl rfl) ?_;go_frame;go_wp2;go_ret;exact ⟨by rw [<- sw.u,HR.u]; rfl,K.u⟩
   ·obtain rfl:k=us.length:=by omega
    have gY:¬ (us.length:Int)<(us.length:Int):=by omega
    have HR:=U (tO HA.u);go_wp2;go_ret;exact ⟨by rw [<- sw.u,HR.u]; rfl,K.u⟩
 ·have Hi:¬ (us.length:Int)=(vs.length:Int):=by omega
  have HR:=U (tN (p:=p) hne);go_upto_region 1 with fail;refine c6<|j8 rfl<|k8 (g9 Tryz.underlying23)<|j8 rfl<|k8 (g9 Tryz.underlying23) ?_;go_frame;refine k8 (g8 (.bool true) .neq (h:=aE _ f7)) ?_;go_frame;go_wp2;go_ret;exact ⟨by rw [HR.u]; rfl,K.u⟩
theorem Em {va vb:Value} {us vs:List Value} {w:World} (h1:Rg.cH w va us) (h2:Rg.cH w vb vs) (F:FuncId) (hF:∀ args W,(callFunc F args).run Tryz.prog W=.ok (.enter F args) W) {p:Nat->Bool} (hp:zT F w us vs p) :
  Calls Tryz.prog 129 #[va,vb,.func (.func F) #[] #[]] w fun e w'=>e=.returned (.bool (jV us.length vs.length p))/\BE w w':=by
 obtain ⟨ad,cap,rfl,_,_,Bk,aP⟩:=h1;obtain ⟨Bj,lH,rfl,_,_,vp,dy⟩:=h2;unfold Rg.oY at Bk vp;have Hc:=U aP;have Ej:=U dy;have HP:=U hp;have K:=U (bi w);clear aP dy hp
 go_enter Tryz.func129,Tryz.ntmps129
 by_cases hne:us.length=vs.length
 ·have Hi:(us.length:Int)=(vs.length:Int):=by omega
  have sw:=U hne;go_upto_region 1 with fail;refine c6<|j8 rfl<|k8 (g9 Tryz.underlying41)<|j8 rfl<|k8 (g9 Tryz.underlying41) ?_;go_frame;refine k8 (g8 (.bool false) .neq (h:=aE _ f8)) ?_;go_frame;have HA:=U (show (List.range 0).all p=true from rfl);go_wp2
  go_loopw [17] (fun kv wr=>∃ k:Nat,kv=.int .i64 k/\k<=us.length/\Hid ((List.range k).all p=true)/\Hid (BE w wr)) (fun kv _=>us.length - (intOf kv).toNat)
  case atStart=>exact ⟨0,rfl,Nat.zero_le _,HA,K⟩
  case round =>
   clear HA K;obtain ⟨k,rfl,hk,HA,K⟩:=hrel
   by_cases b_:k<us.length
   ·have gY:(k:Int)<(us.length:Int):=by omega
    have lI:k<vs.length:=by omega
    have ba:=U b_;have xY:=U lI;obtain ⟨b,o,rfl,hb,hc⟩:=Hc.u (by omega);obtain ⟨b2,o2,rfl,dh,gI⟩:=Ej.u (by omega);obtain ⟨x,hx⟩:∃ x:Value,Hid (us[k]'b_=x):=⟨_,U rfl⟩;obtain ⟨y,hy⟩:∃ y:Value,Hid (vs[k]'lI=y):=⟨_,U rfl⟩;have CX:=U (CL.mk (show w.cell? ⟨b,o+k,none⟩=some x by rw [<- hx.u]; exact hc k b_) hb);have CY:=U (CL.mk (show w.cell? ⟨b2,o2+k,none⟩=some y by rw [<- hy.u]; exact gI k lI) dh);have kt:=HP.u k b_ lI wr K.u;rw [show us[k]=x from hx.u,show vs[k]=y from hy.u] at kt;have HK:=U kt;clear hc gI kt hb dh
    cases gW:p k with
    | true =>
     have HPK:=U gW;rw [gW] at HK;have fC:=U (mA HA.u gW);clear gW;go_upto_region 5 with fail;refine c6<|j7 rfl<|k8 (ag aM _ _ rfl b (o) (us.length) cap (k) rfl rfl ba.u)<|k8 (g7 (x) ⟨b,o+k,none⟩ (Rg.ae _ _ Tryz.underlying27 ((Below.cell (p:=⟨b,o+k,none⟩) K.u CX.u.lt).trans CX.u.cell)))<|j7 rfl ?_;go_frame;refine j6 (x) rfl ?_;go_frame;go_upto_region 6 with fail;refine c6<|j8 rfl<|j7 rfl<|k8 (ag aM _ _ rfl b2 (o2) (vs.length) lH (k) rfl rfl xY.u)<|k8 (g7 (y) ⟨b2,o2+k,none⟩ (Rg.ae _ _ Tryz.underlying27 ((Below.cell (p:=⟨b2,o2+k,none⟩) K.u CY.u.lt).trans CY.u.cell))) ?_;go_frame;refine j6 (y) rfl ?_;go_frame;go_upto_region 7 with fail;refine c6<|j6 (.func (.func F) #[] #[]) rfl<|j6 (x) rfl<|j6 (y) rfl ?_;go_frame;refine f4 29 (kJ F _ _ _ _ rfl rfl rfl rfl (hF _ _)) ?_;refine (HK.u).mono ?_;rintro e1 gA ⟨rfl,hb⟩;refine ⟨_,rfl,?_⟩;go_frame;replace K:=U (Rg.acc K.u hb);clear hb;refine k8 (bw _ _ true rfl rfl) ?_;go_frame;go_wp2;go_roundw
     case rel=>exact ⟨k+1,by go_num,ba.u,fC,K⟩
     case measure=>simp [intOf]; have:=ba.u; omega
    | false =>
     rw [gW] at HK;have HR:=U (w_ b_ gW);clear gW;go_upto_region 5 with fail;refine c6<|j7 rfl<|k8 (ag aM _ _ rfl b (o) (us.length) cap (k) rfl rfl ba.u)<|k8 (g7 (x) ⟨b,o+k,none⟩ (Rg.ae _ _ Tryz.underlying27 ((Below.cell (p:=⟨b,o+k,none⟩) K.u CX.u.lt).trans CX.u.cell)))<|j7 rfl ?_;go_frame;refine j6 (x) rfl ?_;go_frame;go_upto_region 6 with fail;refine c6<|j8 rfl<|j7 rfl<|k8 (ag aM _ _ rfl b2 (o2) (vs.length) lH (k) rfl rfl xY.u)<|k8 (g7 (y) ⟨b2,o2+k,none⟩ (Rg.ae _ _ Tryz.underlying27 ((Below.cell (p:=⟨b2,o2+k,none⟩) K.u CY.u.lt).trans CY.u.cell))) ?_;go_frame;refine j6 (y) rfl ?_;go_frame;go_upto_region 7 with fail;refine c6<|j6 (.func (.func F) #[] #[]) rfl<|j6 (x) rfl<|j6 (y) rfl ?_;go_frame;refine f4 29 (kJ F _ _ _ _ rfl rfl rfl rfl (hF _ _)) ?_;refine (HK.u).mono ?_;rintro e1 gA ⟨rfl,hb⟩;refine ⟨_,rfl,?_⟩;go_frame;replace K:=U (Rg.acc K.u hb);clear hb;refine k8 (bw _ _ false rfl rfl) ?_;go_frame;go_wp2;go_ret;exact ⟨by rw [<- sw.u,HR.u]; rfl,K.u⟩
   ·obtain rfl:k=us.length:=by omega
    have gY:¬ (us.length:Int)<(us.length:Int):=by omega
    have HR:=U (tO HA.u);go_wp2;go_ret;exact ⟨by rw [<- sw.u,HR.u]; rfl,K.u⟩
 ·have Hi:¬ (us.length:Int)=(vs.length:Int):=by omega
  have HR:=U (tN (p:=p) hne);go_upto_region 1 with fail;refine c6<|j8 rfl<|k8 (g9 Tryz.underlying41)<|j8 rfl<|k8 (g9 Tryz.underlying41) ?_;go_frame;refine k8 (g8 (.bool true) .neq (h:=aE _ f7)) ?_;go_frame;go_wp2;go_ret;exact ⟨by rw [HR.u]; rfl,K.u⟩

theorem Rq (args:Array Value) (w:World):(callFunc 131 args).run Tryz.prog w=.ok (.enter 131 args) w:=by kernel_rfl
theorem Yc (args:Array Value) (w:World):(callFunc 129 args).run Tryz.prog w=.ok (.enter 129 args) w:=by kernel_rfl
theorem Rs (args:Array Value) (w:World):(callFunc 125 args).run Tryz.prog w=.ok (.enter 125 args) w:=by kernel_rfl
theorem Yd (args:Array Value) (w:World):(callFunc 127 args).run Tryz.prog w=.ok (.enter 127 args) w:=by kernel_rfl
theorem ng (v1 v2:Value) (l1 l2:List Int) (w:World) (h:Rg.Ints w v1 l1) (h':Rg.Ints w v2 l2)  :
  Calls Tryz.prog 126 #[v1,v2] w fun e w'=>e=.returned (.bool (decide (l1=l2)))/\BE w w':=by
 have hl:l1.length<=1000000000:=by obtain ⟨n,a,c,e,_,e2⟩:=h.len; omega
 obtain ⟨ad,cap,rfl,_,Bk,_,aP⟩:=h.shape;obtain ⟨Bj,lH,rfl,_,vp,_,dy⟩:=h'.shape;have Hc:=U aP;have Ej:=U dy;clear aP h dy h'
 by_cases hne:l1.length=l2.length
 ·rw [<- hne]
  rw [<- hne] at vp;have sw:=U hne;clear hne
  go_enter Tryz.func126,Tryz.ntmps126
  go_wp2
  go_loopw [13] (fun i wr=>∃ k:Nat,k<=l1.length/\i=.int .i64 k/\Hid (l1.take k=l2.take k)/\Hid (BE w wr)) (fun i _=>l1.length - (intOf i).toNat)
  case atStart=>exact ⟨0,by omega,rfl,U (by simp),U (Below.refl _ _)⟩
  case round =>
   obtain ⟨k,hk,rfl,hs,cu⟩:=hrel
   by_cases az:k<l1.length
   ·have fK:k<l2.length:=by have:=sw.u; omega
    obtain ⟨b,o,rfl,hb,hc⟩:=Hc.u (by omega);obtain ⟨b2,o2,rfl,dh,gI⟩:=Ej.u (by omega);have c0:=(cu.u.cell (p:=⟨b,o+k,none⟩) hb).trans (hc k az);have c2:=(cu.u.cell (p:=⟨b2,o2+k,none⟩) dh).trans (gI k fK);obtain ⟨x,hx⟩:∃ x,Hid (x=l1[k]):=⟨_,U rfl⟩;obtain ⟨y,hy⟩:∃ y,Hid (y=l2[k]):=⟨_,U rfl⟩;rw [<- hx.u] at c0;rw [<- hy.u] at c2
    have b_:(k:Int)<(l1.length:Int):=by omega
    clear hc hb gI dh
    by_cases he:x=y
    ·have e1:(x != y)=false:=by simp [he]
     have HE:=U he;go_upto_region 6 with fail
     go_quiet (fail)
     have wS:=U (Rg.drewN cu.u nq);generalize wr.drewN nq=wq at *;go_wp2;go_roundw
     case rel =>
      refine ⟨k+1,by omega,by go_num,U ?_,wS⟩;rw [List.take_succ_eq_append_getElem az,List.take_succ_eq_append_getElem fK,hs.u,<- hx.u,<- hy.u,HE.u]
     case measure=>simp [intOf]; omega
    ·have e1:(x != y)=true:=by simp [he]
     have hm:decide (l1=l2)=false:=by
      rw [decide_eq_false_iff_not];intro e;subst e;exact he (hx.u.trans hy.u.symm)
     have HM:=U hm;clear hm;go_upto_region 6 with fail
     go_quiet (fail)
     have wS:=U (Rg.drewN cu.u nq);generalize wr.drewN nq=wq at *;go_wp2;go_ret;exact ⟨by rw [HM.u]; rfl,wS.u⟩
   ·obtain rfl:k=l1.length:=by omega
    have hm:decide (l1=l2)=true:=by
     rw [decide_eq_true_iff];have:=hs.u
     rwa [List.take_length,sw.u,List.take_length] at this
    have HM:=U hm;clear hm;go_wp2;go_ret;exact ⟨by rw [HM.u]; rfl,cu.u⟩
 ·have hb:((l1.length:Int) != (l2.length:Int))=true:=by rw [bne_iff_ne]; omega
  have hm:decide (l1=l2)=false:=by
   rw [decide_eq_false_iff_not];intro e;subst e;exact hne rfl
  have HM:=U hm;have sw:=U hne;clear hm hne
  go_enter Tryz.func126,Tryz.ntmps126
  go_wp2;go_ret;exact ⟨by rw [HM.u]; rfl,Below.refl _ _⟩
theorem vr (v1 v2:Value) (l1 l2:List Int) (w:World) (h:Rg.Ints w v1 l1) (h':Rg.Ints w v2 l2)  :
  Calls Tryz.prog 131 #[v1,v2] w fun e w'=>e=.returned (.bool (decide (l1=l2)))/\BE w w':=by
 have hl:l1.length<=1000000000:=by obtain ⟨n,a,c,e,_,e2⟩:=h.len; omega
 obtain ⟨ad,cap,rfl,_,Bk,_,aP⟩:=h.shape;obtain ⟨Bj,lH,rfl,_,vp,_,dy⟩:=h'.shape;have Hc:=U aP;have Ej:=U dy;clear aP h dy h'
 by_cases hne:l1.length=l2.length
 ·rw [<- hne]
  rw [<- hne] at vp;have sw:=U hne;clear hne
  go_enter Tryz.func131,Tryz.ntmps131
  go_wp2
  go_loopw [13] (fun i wr=>∃ k:Nat,k<=l1.length/\i=.int .i64 k/\Hid (l1.take k=l2.take k)/\Hid (BE w wr)) (fun i _=>l1.length - (intOf i).toNat)
  case atStart=>exact ⟨0,by omega,rfl,U (by simp),U (Below.refl _ _)⟩
  case round =>
   obtain ⟨k,hk,rfl,hs,cu⟩:=hrel
   by_cases az:k<l1.length
   ·have fK:k<l2.length:=by have:=sw.u; omega
    obtain ⟨b,o,rfl,hb,hc⟩:=Hc.u (by omega);obtain ⟨b2,o2,rfl,dh,gI⟩:=Ej.u (by omega);have c0:=(cu.u.cell (p:=⟨b,o+k,none⟩) hb).trans (hc k az);have c2:=(cu.u.cell (p:=⟨b2,o2+k,none⟩) dh).trans (gI k fK);obtain ⟨x,hx⟩:∃ x,Hid (x=l1[k]):=⟨_,U rfl⟩;obtain ⟨y,hy⟩:∃ y,Hid (y=l2[k]):=⟨_,U rfl⟩;rw [<- hx.u] at c0;rw [<- hy.u] at c2
    have b_:(k:Int)<(l1.length:Int):=by omega
    clear hc hb gI dh
    by_cases he:x=y
    ·have e1:(x != y)=false:=by simp [he]
     have HE:=U he;go_upto_region 6 with fail
     go_quiet (fail)
     have wS:=U (Rg.drewN cu.u nq);generalize wr.drewN nq=wq at *;go_wp2;go_roundw
     case rel =>
      refine ⟨k+1,by omega,by go_num,U ?_,wS⟩;rw [List.take_succ_eq_append_getElem az,List.take_succ_eq_append_getElem fK,hs.u,<- hx.u,<- hy.u,HE.u]
     case measure=>simp [intOf]; omega
    ·have e1:(x != y)=true:=by simp [he]
     have hm:decide (l1=l2)=false:=by
      rw [decide_eq_false_iff_not];intro e;subst e;exact he (hx.u.trans hy.u.symm)
     have HM:=U hm;clear hm;go_upto_region 6 with fail
     go_quiet (fail)
     have wS:=U (Rg.drewN cu.u nq);generalize wr.drewN nq=wq at *;go_wp2;go_ret;exact ⟨by rw [HM.u]; rfl,wS.u⟩
   ·obtain rfl:k=l1.length:=by omega
    have hm:decide (l1=l2)=true:=by
     rw [decide_eq_true_iff];have:=hs.u
     rwa [List.take_length,sw.u,List.take_length] at this
    have HM:=U hm;clear hm;go_wp2;go_ret;exact ⟨by rw [HM.u]; rfl,cu.u⟩
 ·have hb:((l1.length:Int) != (l2.length:Int))=true:=by rw [bne_iff_ne]; omega
  have hm:decide (l1=l2)=false:=by
   rw [decide_eq_false_iff_not];intro e;subst e;exact hne rfl
  have HM:=U hm;have sw:=U hne;clear hm hne
  go_enter Tryz.func131,Tryz.ntmps131
  go_wp2;go_ret;exact ⟨by rw [HM.u]; rfl,Below.refl _ _⟩
theorem Hj {F:FuncId} {w:World} {va vb:Value} {A B:List (List Int)} (h1:Rg.Rows w va A) (h2:Rg.Rows w vb B)
  (hF:∀ (v1 v2:Value) (l1 l2:List Int) (W:World),Rg.Ints W v1 l1->Rg.Ints W v2 l2->Calls Tryz.prog F #[v1,v2] W fun e w'=>e=.returned (.bool (decide (l1=l2)))/\BE W w') :
  ∃ us vs,Rg.cH w va us/\Rg.cH w vb vs/\us.length=A.length/\vs.length=B.length/\zT F w us vs (fun i=>decide (A.getD i []=B.getD i [])):=by
 obtain ⟨us,a1,a2,a3⟩:=h1;obtain ⟨vs,b1,b2,b3⟩:=h2;refine ⟨us,vs,a1,b1,a2,b2,fun i hi hj W hb=>?_⟩
 have e1:A.getD i []=A[i]'(by omega):=by rw [List.getD_eq_getElem?_getD,List.getElem?_eq_getElem (by omega)]; rfl
 have e2:B.getD i []=B[i]'(by omega):=by rw [List.getD_eq_getElem?_getD,List.getElem?_eq_getElem (by omega)]; rfl
 dsimp only
 rw [e1,e2];exact hF _ _ _ _ W ((a3 i hi (by omega)).p hb) ((b3 i hj (by omega)).p hb)
theorem MG {A B:List (List Int)}:jV A.length B.length (fun i=>decide (A.getD i []=B.getD i []))=decide (A=B) :=
 zU fun i h1 h2=>by
  have e1:A.getD i []=A[i]:=by rw [List.getD_eq_getElem?_getD,List.getElem?_eq_getElem h1]; rfl
  have e2:B.getD i []=B[i]:=by rw [List.getD_eq_getElem?_getD,List.getElem?_eq_getElem h2]; rfl
  rw [e1,e2]
theorem Ow {F:FuncId} {w:World} {va vb:Value} {A B:List (List (List Int))} (h1:gC w va A) (h2:gC w vb B)
  (hF:∀ (v1 v2:Value) (l1 l2:List (List Int)) (W:World),Rg.Rows W v1 l1->Rg.Rows W v2 l2->Calls Tryz.prog F #[v1,v2] W fun e w'=>e=.returned (.bool (decide (l1=l2)))/\BE W w') :
  ∃ us vs,Rg.cH w va us/\Rg.cH w vb vs/\us.length=A.length/\vs.length=B.length/\zT F w us vs (fun i=>decide (A.getD i []=B.getD i [])):=by
 obtain ⟨us,a1,a2,a3⟩:=h1;obtain ⟨vs,b1,b2,b3⟩:=h2;refine ⟨us,vs,a1,b1,a2,b2,fun i hi hj W hb=>?_⟩
 have e1:A.getD i []=A[i]'(by omega):=by rw [List.getD_eq_getElem?_getD,List.getElem?_eq_getElem (by omega)]; rfl
 have e2:B.getD i []=B[i]'(by omega):=by rw [List.getD_eq_getElem?_getD,List.getElem?_eq_getElem (by omega)]; rfl
 dsimp only
 rw [e1,e2];exact hF _ _ _ _ W ((a3 i hi (by omega)).p hb) ((b3 i hj (by omega)).p hb)
theorem Rt {A B:List (List (List Int))}:jV A.length B.length (fun i=>decide (A.getD i []=B.getD i []))=decide (A=B) :=
 zU fun i h1 h2=>by
  have e1:A.getD i []=A[i]:=by rw [List.getD_eq_getElem?_getD,List.getElem?_eq_getElem h1]; rfl
  have e2:B.getD i []=B[i]:=by rw [List.getD_eq_getElem?_getD,List.getElem?_eq_getElem h2]; rfl
  rw [e1,e2]
theorem Eo (args:Array Value) (w:World):(callFunc 126 args).run Tryz.prog w=.ok (.enter 126 args) w:=by kernel_rfl
theorem aaP (args:Array Value) (w:World):(callFunc 128 args).run Tryz.prog w=.ok (.enter 128 args) w:=by kernel_rfl
theorem Ye (args:Array Value) (w:World):(callFunc 130 args).run Tryz.prog w=.ok (.enter 130 args) w:=by kernel_rfl
theorem Hk (v1 v2:Value) (l1 l2:List Int) (w:World) (h1:Rg.Ints w v1 l1) (h2:Rg.Ints w v2 l2) :
  Calls Tryz.prog 130 #[v1,v2] w fun e w'=>e=.returned (.bool (decide (l1=l2)))/\BE w w':=by
 have H1:=U h1;have H2:=U h2;have K:=U (bi w);clear h1 h2;obtain ⟨b,ky⟩:∃ b,Hid (decide (l1=l2)=b):=⟨_,U rfl⟩
 go_enter Tryz.func130,Tryz.ntmps130
 go_upto_region 1 with fail;refine c6<|j6 (v1) rfl<|j6 (v2) rfl ?_;go_frame;refine f4 7 (ax 131 _ _ _ rfl rfl rfl (Rq _ _)) ?_;refine (show Calls _ _ _ _ (fun e w'=>e=.returned (.bool b)/\BE w w') by rw [<- ky.u]; exact vr _ _ _ _ w H1.u H2.u).mono ?_;rintro e1 w1 ⟨rfl,hb⟩;refine ⟨_,rfl,?_⟩;go_frame;replace H1:=U (H1.u.p hb);replace H2:=U (H2.u.p hb);replace K:=U (Rg.acc K.u hb);clear hb;refine k7 rfl ?_;go_frame;go_wp2;go_ret;exact ⟨by rw [ky.u]; rfl,K.u⟩
theorem Kr (v1 v2:Value) (l1 l2:List (List Int)) (w:World) (h1:Rg.Rows w v1 l1) (h2:Rg.Rows w v2 l2) :
  Calls Tryz.prog 128 #[v1,v2] w fun e w'=>e=.returned (.bool (decide (l1=l2)))/\BE w w':=by
 obtain ⟨us,vs,hu,hv,e1,e2,kt⟩:=Hj h1 h2 (F:=130) Hk;have HC:=U (Em hu hv _ Ye kt);rw [e1,e2,MG] at HC;have K:=U (bi w);clear h1 h2 hu hv e1 e2 kt;obtain ⟨b,ky⟩:∃ b,Hid (decide (l1=l2)=b):=⟨_,U rfl⟩;rw [ky.u] at HC ⊢
 go_enter Tryz.func128,Tryz.ntmps128
 go_upto_region 1 with fail;refine c6<|j6 (v1) rfl<|j6 (v2) rfl ?_;go_frame;refine f4 7 (dm 129 _ _ _ _ rfl rfl rfl rfl (Yc _ _)) ?_;refine (HC.u).mono ?_;rintro e1 w1 ⟨rfl,hb⟩;refine ⟨_,rfl,?_⟩;go_frame;replace K:=U (Rg.acc K.u hb);clear hb;refine k7 rfl ?_;go_frame;go_wp2;go_ret;exact ⟨rfl,K.u⟩
theorem qQ (v1 v2:Value) (A B:List (List Int)) (w:World) (h1:Rg.Rows w v1 A) (h2:Rg.Rows w v2 B) {b:Bool} (hb:Hid (decide (A=B)=b)) :
  Calls Tryz.prog 125 #[v1,v2,.func (.func 126) #[] #[]] w fun e w'=>e=.returned (.bool b)/\BE w w':=by
 obtain ⟨us,vs,hu,hv,e1,e2,kt⟩:=Hj h1 h2 (F:=126) ng;have HC:=Ei hu hv _ Eo kt;rw [e1,e2,MG,hb.u] at HC;exact HC
theorem zV (v1 v2:Value) (A B:List (List (List Int))) (w:World) (h1:gC w v1 A) (h2:gC w v2 B) {b:Bool} (hb:Hid (decide (A=B)=b)) :
  Calls Tryz.prog 127 #[v1,v2,.func (.func 128) #[] #[]] w fun e w'=>e=.returned (.bool b)/\BE w w':=by
 obtain ⟨us,vs,hu,hv,e1,e2,kt⟩:=Ow h1 h2 (F:=128) Kr;have HC:=Ek hu hv _ aaP kt;rw [e1,e2,Rt,hb.u] at HC;exact HC
theorem eA (w:World) (x y z:Value):CL (w.alloc (.cells #[x,y,z] 25)) w.heap.size 0 x/\CL (w.alloc (.cells #[x,y,z] 25)) w.heap.size 1 y/\CL (w.alloc (.cells #[x,y,z] 25)) w.heap.size 2 z :=
 ⟨⟨by rw [Rg.aW]; rfl,by simp⟩,⟨by rw [Rg.aW]; rfl,by simp⟩,⟨by rw [Rg.aW]; rfl,by simp⟩⟩
def bl (w:World) (ov rv:Value) (OO:List (List Int)) (RR:List (List (List Int))):Prop:=Rg.Rows w ov OO/\gC w rv RR
theorem bl.p {w w':World} {ov rv:Value} {OO:List (List Int)} {RR:List (List (List Int))} (h:bl w ov rv OO RR) (hb:BE w w'):bl w' ov rv OO RR:=⟨h.1.p hb,h.2.p hb⟩
theorem Hm {n m:Int} {sx tP:Value} {oK:List (List Int)} {iQ:List (List (List Int))} {w:World} (h1:bl w ov rv OO RR) (h2:bl w sx tP oK iQ) :
  Calls Tryz.prog 96 #[.agg #[.int .i64 n,ov,rv],.agg #[.int .i64 m,sx,tP]] w fun e w'=>e=.returned (.bool (decide (n=m/\OO=oK/\RR=iQ)))/\BE w w':=by
 have H1:=U h1;have H2:=U h2;have K:=U (bi w);clear h1 h2
 go_enter Tryz.func96,Tryz.ntmps96
 go_upto_region 0 with fail;refine c6 ?_;have aN:=eA w (.int .i64 n) ov rv;refine k8 (Rg.aY _ _ rfl rfl) ?_;go_frame;have hb:BE w (w.alloc (.cells #[.int .i64 n,ov,rv] 25)):=(Below.refl _ _).alloc (Nat.le_refl _) _;generalize w.alloc (.cells #[.int .i64 n,ov,rv] 25)=w1 at *;replace H1:=U (H1.u.p hb);replace H2:=U (H2.u.p hb);replace K:=U (Rg.acc K.u hb);clear hb;have A0:=U aN.1;have A1:=U aN.2.1;have A2:=U aN.2.2;clear aN;have aN:=eA w1 (.int .i64 m) sx tP;refine k8 (Rg.aY _ _ rfl rfl) ?_;go_frame;have hb:BE w1 (w1.alloc (.cells #[.int .i64 m,sx,tP] 25)):=(Below.refl _ _).alloc (Nat.le_refl _) _;generalize w1.alloc (.cells #[.int .i64 m,sx,tP] 25)=w2 at *;replace H1:=U (H1.u.p hb);replace H2:=U (H2.u.p hb);replace A0:=U (A0.u.p hb);replace A1:=U (A1.u.p hb);replace A2:=U (A2.u.p hb);replace K:=U (Rg.acc K.u hb);clear hb;have B0:=U aN.1;have B1:=U aN.2.1;have B2:=U aN.2.2;clear aN;refine k7 rfl ?_;go_frame
 by_cases Ru:n=m
 ·obtain ⟨b1,bZ⟩:∃ b,Hid (decide (OO=oK)=b):=⟨_,U rfl⟩
  obtain ⟨b2,dh⟩:∃ b,Hid (decide (RR=iQ)=b):=⟨_,U rfl⟩;have HE:=U (show decide (n=m/\OO=oK/\RR=iQ)=(b1 && b2) by rw [<- bZ.u,<- dh.u]; simp [Ru])
  cases b1 with
  | true =>
   go_upto_region 1 with fail;refine c6<|k8 (j4 (cT _ _))<|k8 (g7 (.int .i64 n) ⟨w.heap.size,0,none⟩ (af A0.u.cell))<|k8 (j4 (cT _ _))<|k8 (g7 (.int .i64 m) ⟨w1.heap.size,0,none⟩ (af B0.u.cell)) ?_;go_frame;refine k8 (g8 (.bool true) .eql (h:=eM _ (decide_eq_true Ru)))<|k7 rfl<|k8 (j4 (cp _ _))<|k8 (g7 (ov) ⟨w.heap.size,1,none⟩ (Rg.ae _ _ Tryz.underlying22 A1.u.cell))<|k8 (j4 (cp _ _)) ?_;go_frame;refine k8 (g7 (sx) ⟨w1.heap.size,1,none⟩ (Rg.ae _ _ Tryz.underlying22 B1.u.cell)) ?_;go_frame;refine eL (some 15) rfl rfl _ _ (dm 125 _ _ _ _ rfl rfl rfl rfl (Rs _ _)) ?_;refine (qQ _ _ _ _ w2 H1.u.1 H2.u.1 bZ).mono ?_;rintro e1 w3 ⟨rfl,hb⟩;refine ⟨_,rfl,?_⟩;go_frame;replace H1:=U (H1.u.p hb);replace H2:=U (H2.u.p hb);replace A0:=U (A0.u.p hb);replace A1:=U (A1.u.p hb);replace A2:=U (A2.u.p hb);replace B0:=U (B0.u.p hb);replace B1:=U (B1.u.p hb);replace B2:=U (B2.u.p hb);replace K:=U (Rg.acc K.u hb);clear hb;refine k8 (i8 (.bool true))<|k7 rfl<|k8 (j4 (cJ _ _))<|k8 (g7 (rv) ⟨w.heap.size,2,none⟩ (Rg.ae _ _ Tryz.underlying23 A2.u.cell))<|k8 (j4 (cJ _ _)) ?_;go_frame;refine k8 (g7 (tP) ⟨w1.heap.size,2,none⟩ (Rg.ae _ _ Tryz.underlying23 B2.u.cell)) ?_;go_frame;refine eL (some 22) rfl rfl _ _ (dm 127 _ _ _ _ rfl rfl rfl rfl (Yd _ _)) ?_;refine (zV _ _ _ _ w3 H1.u.2 H2.u.2 dh).mono ?_;rintro e1 w4 ⟨rfl,hb⟩;refine ⟨_,rfl,?_⟩;go_frame;replace H1:=U (H1.u.p hb);replace H2:=U (H2.u.p hb);replace A0:=U (A0.u.p hb);replace A1:=U (A1.u.p hb);replace A2:=U (A2.u.p hb);replace B0:=U (B0.u.p hb);replace B1:=U (B1.u.p hb);replace B2:=U (B2.u.p hb);replace K:=U (Rg.acc K.u hb);clear hb
   refine k8 (i8 (.bool b2))<|k7 rfl ?_;go_frame;go_wp2;go_ret;exact ⟨by rw [HE.u]; rfl,K.u⟩
  | false =>
   go_upto_region 1 with fail;refine c6<|k8 (j4 (cT _ _))<|k8 (g7 (.int .i64 n) ⟨w.heap.size,0,none⟩ (af A0.u.cell))<|k8 (j4 (cT _ _))<|k8 (g7 (.int .i64 m) ⟨w1.heap.size,0,none⟩ (af B0.u.cell)) ?_;go_frame;refine k8 (g8 (.bool true) .eql (h:=eM _ (decide_eq_true Ru)))<|k7 rfl<|k8 (j4 (cp _ _))<|k8 (g7 (ov) ⟨w.heap.size,1,none⟩ (Rg.ae _ _ Tryz.underlying22 A1.u.cell))<|k8 (j4 (cp _ _)) ?_;go_frame;refine k8 (g7 (sx) ⟨w1.heap.size,1,none⟩ (Rg.ae _ _ Tryz.underlying22 B1.u.cell)) ?_;go_frame;refine eL (some 15) rfl rfl _ _ (dm 125 _ _ _ _ rfl rfl rfl rfl (Rs _ _)) ?_;refine (qQ _ _ _ _ w2 H1.u.1 H2.u.1 bZ).mono ?_;rintro e1 w3 ⟨rfl,hb⟩;refine ⟨_,rfl,?_⟩;go_frame;replace H1:=U (H1.u.p hb);replace H2:=U (H2.u.p hb);replace A0:=U (A0.u.p hb);replace A1:=U (A1.u.p hb);replace A2:=U (A2.u.p hb);replace B0:=U (B0.u.p hb);replace B1:=U (B1.u.p hb);replace B2:=U (B2.u.p hb);replace K:=U (Rg.acc K.u hb);clear hb;refine k8 (i8 (.bool false))<|k7 rfl<|f9 18<|f9 19<|f9 20 ?_;go_frame;refine f9 21<|f9 22<|k8 (i7 (.bool false))<|k7 rfl ?_;go_frame;go_wp2;go_ret;exact ⟨by rw [HE.u]; rfl,K.u⟩
 ·have HE:=U (show decide (n=m/\OO=oK/\RR=iQ)=false by simp [Ru])
  go_upto_region 1 with fail;refine c6<|k8 (j4 (cT _ _))<|k8 (g7 (.int .i64 n) ⟨w.heap.size,0,none⟩ (af A0.u.cell))<|k8 (j4 (cT _ _))<|k8 (g7 (.int .i64 m) ⟨w1.heap.size,0,none⟩ (af B0.u.cell)) ?_;go_frame;refine k8 (g8 (.bool false) .eql (h:=eM _ (decide_eq_false Ru)))<|k7 rfl<|f9 11<|f9 12<|f9 13 ?_;go_frame;refine f9 14<|f9 15<|k8 (i7 (.bool false))<|k7 rfl<|f9 18 ?_;go_frame;refine f9 19<|f9 20<|f9 21<|f9 22<|k8 (i7 (.bool false)) ?_;go_frame;refine k7 rfl ?_;go_frame;go_wp2;go_ret;exact ⟨by rw [HE.u]; rfl,K.u⟩
end
end Go.Proofs.YtpedbljnhnoohaaGreat
namespace Go.Proofs.Rg
open Go Go.RowKit
theorem aH {l:Nat} {P:Program} {ops:Array Oper} {rest:List Oper} {o:Oper} {a:Act} {w:World} {Q:Exit->Act->World->Prop} (d:Option Tmp) (hg:o.guard=none) (hd:o.dst=d) (hnd:∀ c,o.op≠.defer c)
  (hr:(execOp a.eval o).run P w=.ok (.value v) w') (h:wpListIn (Fence.wide.inRound l) n P ops Q rest (a.put d v) w'):wpListIn (Fence.wide.inRound l) n P ops Q (o :: rest) a w:=by
 subst hd;refine wpListIn_plain hg fun K hK=>⟨fun _ _=>trivial,?_⟩;rw [Oper.semAt_eq _ _ _ hnd,hr];exact hK _ _ h
theorem iy {l:Nat} {P:Program} {ops:Array Oper} {rest:List Oper} {o:Oper} {a:Act} {w:World} {Q:Exit->Act->World->Prop} (d:Option Tmp) (hg:o.guard=none) (hd:o.dst=d) (hnd:∀ c,o.op≠.defer c)
  (hr:(execOp a.eval o).run P w=.ok .skip w') (h:wpListIn (Fence.wide.inRound l) n P ops Q rest (a.put d undef) w'):wpListIn (Fence.wide.inRound l) n P ops Q (o :: rest) a w:=by
 subst hd;refine wpListIn_plain hg fun K hK=>⟨fun _ _=>trivial,?_⟩;rw [Oper.semAt_eq _ _ _ hnd,hr];exact hK _ _ h
theorem rT {l:Nat} {P:Program} {ops:Array Oper} {rest:List Oper} {o:Oper} {a:Act} {w:World} {Q:Exit->Act->World->Prop} (d:Option Tmp) (hg:o.guard=none) (hd:o.dst=d) (hnd:∀ c,o.op≠.defer c) (f:FuncId) (args:Array Value)
  (hr:(execOp a.eval o).run P w=.ok (.enter f args) w) (h:Calls P f args w fun e w'=>∃ v,e=.returned v/\wpListIn (Fence.wide.inRound l) n P ops Q rest (a.put d v) w'):wpListIn (Fence.wide.inRound l) n P ops Q (o :: rest) a w:=by
 subst hd;refine wpListIn_plain hg fun K hK=>⟨fun _ _=>trivial,?_⟩;rw [Oper.semAt_eq _ _ _ hnd,hr];refine ⟨(fun hh=>by cases hh),(CallsIn.inRound l (callsIn_wide.2 h)).mono ?_⟩;rintro e w' ⟨v,rfl,hv⟩;exact hK _ _ hv
theorem eB {l:Nat} {P:Program} {ops:Array Oper} {rest:List Oper} {o:Oper} {a:Act} {w:World} {Q:Exit->Act->World->Prop} (d:Option Tmp) (hw:Region.wanted o (yielded ops a.tmps)=true) (hd:o.dst=d) (hnd:∀ c,o.op≠.defer c)
  (hr:(execOp a.eval o).run P w=.ok (.value v) w') (h:wpListIn (Fence.wide.inRound l) n P ops Q rest (a.put d v) w'):wpListIn (Fence.wide.inRound l) n P ops Q (o :: rest) a w:=by
 subst hd;refine wpListIn_step fun K hK=>?_;rw [if_pos hw];refine ⟨fun _ _=>trivial,?_⟩;rw [Oper.semAt_eq _ _ _ hnd,hr];exact hK _ _ h
theorem Hn {l:Nat} {P:Program} {ops:Array Oper} {rest:List Oper} {o:Oper} {a:Act} {w:World} {Q:Exit->Act->World->Prop} (d:Option Tmp) (hw:Region.wanted o (yielded ops a.tmps)=true) (hd:o.dst=d) (hnd:∀ c,o.op≠.defer c) (f:FuncId) (args:Array Value)
  (hr:(execOp a.eval o).run P w=.ok (.enter f args) w) (h:Calls P f args w fun e w'=>∃ v,e=.returned v/\wpListIn (Fence.wide.inRound l) n P ops Q rest (a.put d v) w'):wpListIn (Fence.wide.inRound l) n P ops Q (o :: rest) a w:=by
 subst hd;refine wpListIn_step fun K hK=>?_;rw [if_pos hw];refine ⟨fun _ _=>trivial,?_⟩;rw [Oper.semAt_eq _ _ _ hnd,hr];refine ⟨(fun hh=>by cases hh),(CallsIn.inRound l (callsIn_wide.2 h)).mono ?_⟩;rintro e w' ⟨v,rfl,hv⟩;exact hK _ _ hv
theorem iJ {l:Nat} {P:Program} {ops:Array Oper} {rest:List Oper} {o:Oper} {a:Act} {w:World} {Q:Exit->Act->World->Prop} (d:Option Tmp) (hw:Region.wanted o (yielded ops a.tmps)=false) (hd:o.dst=d)
  (h:wpListIn (Fence.wide.inRound l) n P ops Q rest (a.put d undef) w):wpListIn (Fence.wide.inRound l) n P ops Q (o :: rest) a w:=by
 subst hd;unfold wpListIn;rw [if_neg (by rw [hw]; decide)];exact ⟨fun _ _=>trivial,h⟩
def Ep (Q:Exit->Act->World->Prop):Exit->Act->World->Prop
 | .normal,a,w=>Q .normal a w
 | _,_,_=>False
theorem Da {P:Program} {c:Code} {Q:Exit->Act->World->Prop} {a:Act} {w:World} (h:c.wp P (Ep Q) a w):c.wp P Q a w :=
 wp_mono h fun e a w hq=>by cases e <;> first | exact hq | exact hq.elim
theorem oL {Q:Exit->Act->World->Prop} {a:Act} {w:World} (h:Q .normal a w):Ep Q .normal a w:=h
end Go.Proofs.Rg
namespace Go.Proofs.YtpedbljnhnoohaaGreat
open Go.RowKit
open Go.Proofs
open Go.Shelf
attribute [local go_sem] Oper.semAt_some
def eF (m k:Nat):List (Fin m):=(List.finRange m).take k
theorem nh {m k:Nat} (h:k<m):eF m (k+1)=eF m k++[⟨k,h⟩]:=by
 unfold eF;rw [List.take_succ_eq_append_getElem (by rw [List.length_finRange]; exact h)];simp
theorem zW {m k:Nat} (h:k<=m):(eF m k).length=k:=by
 unfold eF;rw [List.length_take,List.length_finRange];omega
theorem Ho (m:Nat):eF m 0=[]:=rfl
theorem Ks (m:Nat):eF m m=List.finRange m:=by
 unfold eF;rw [List.take_of_length_le (by rw [List.length_finRange]; exact Nat.le_refl _)]
theorem Ox (F:Fence) (n:Nat) (h7:F.fn 97) (hro:F.round=none) (hn:1<=n) (l Bs n₀ m cap:Nat) (ad:Option Addr) (RV:Nat->Value) (hm:m<=1000000000) (Rv:0<m->∃ b off,ad=some ⟨b,off,none⟩/\b<n₀) (J Jx:List (Fin m)->World->Prop)
  (hY:∀ pre x W,J pre W->pre.length<m->YieldAt F (n - 1) Tryz.prog l #[.int .i64 ((x.1:Nat):Int),RV x.1] W fun e W' =>
   (e=.returned (.bool true)/\J (pre++[x]) W'/\Below n₀ W W')∨(e=.returned (.bool false)/\Jx (pre++[x]) W'))
  (W:World) (zC:W.cell? ⟨Bs,2,none⟩=some (.slice ad m cap)) (hc:∀ b off,ad=some ⟨b,off,none⟩->∀ j,j<m->W.cell? ⟨b,off+j,none⟩=some (RV j)) (h0:J [] W) :
  CallsIn F n Tryz.prog 97 #[.func (.yield l) #[] #[],.pointer (some ⟨Bs,0,none⟩)] W fun e W'=>(∃ v,e=.returned v) /\
   ((∃ ys,ys=eF m m/\J ys W')∨(∃ pre,(∃ k,k<=m/\pre=eF m k)/\Jx pre W')):=by
 refine callsIn_of_wp Tryz.func97 rfl h7 ?_ hro;simp only [Tryz.ntmps97,List.size_toArray,List.length_cons,List.length_nil,Nat.reduceAdd,Nat.reduceSub,Array.replicate_succ,Array.replicate_zero,List.push_toArray,List.append_toArray,List.nil_append,List.cons_append]
 gi_wp2
 gi_loopw [8] (fun i wr=>∃ k:Nat,k<=m/\i=.int .i64 k/\J (eF m k) wr/\Below n₀ W wr)
  (fun i _=>m - (intOf i).toNat)
 case atStart=>exact ⟨0,Nat.zero_le _,rfl,h0,Below.refl _ _⟩
 case round =>
  obtain ⟨k,hk,rfl,Qv,Qw⟩:=hrel
  by_cases az:k<m
  ·obtain ⟨b,off,rfl,hb⟩:=Rv (by omega)
   have tB:wr.cell? ⟨b,off+k,none⟩=some (RV k):=(Qw.cell (p:=⟨b,off+k,none⟩) hb).trans (hc b off rfl k az);obtain ⟨fn,tmps,assign,body,hy,hR⟩:=hY _ ⟨k,az⟩ wr Qv (by rw [zW hk]; exact az)
   dsimp only at hy
   gi_wp2
   refine hR.mono ?_
   rintro e W3 (⟨rfl,XC,jN⟩ | ⟨rfl,Qx⟩)
   ·gi_wp2
    go_roundw
    case rel=>exact ⟨k+1,by omega,by simp,by rw [nh az]; exact XC,Qw.trans jN⟩
    case measure=>simp [intOf]; omega
   ·gi_wp2
    refine bodyPost_ret (results_none rfl _ _ _) rfl ?_;exact ⟨⟨_,rfl⟩,.inr ⟨_,⟨k+1,by omega,(nh az).symm⟩,Qx⟩⟩
  ·obtain rfl:k=m:=by omega
   gi_wp2
   go_end0
   exact ⟨⟨_,rfl⟩,.inl ⟨_,rfl,Qv⟩⟩
end Go.Proofs.YtpedbljnhnoohaaGreat
namespace Go.Proofs.RF
open Go Go.RowKit
def fq (D:Nat) (W:World):Prop:=W.heap[D]?=some (.deferred (some []))
theorem fq.size {D:Nat} {W:World} (h:fq D W):D<W.heap.size:=(Array.getElem?_eq_some_iff.1 h).1
theorem fq.pD (h:fq D W) (hb:BE W W'):fq D W':=(hb.block D h.size).trans h
theorem fq.alloc {D:Nat} {W:World} (h:fq D W) (o:Obj):fq D (W.alloc o):=(Below.heap_alloc W o D h.size).trans h
theorem fq.drew {D:Nat} {W:World} (h:fq D W):fq D W.drew:=h
theorem fq.setCell {D:Nat} {W:World} (h:fq D W) (a:Addr) (v:Value):fq D (W.setCell a v) :=
 (KeepsOthers.setCell W a v).same D _ h rfl
theorem fq.cell {D:Nat} {o:Option (List Deferred)} {W:World} (h:fq D W) (a:Addr):(W.putObj D (.deferred o)).cell? a=W.cell? a:=by
 unfold World.cell?
 by_cases e:a.block=D
 ·rw [e,World.putObj_heap_same h.size,show W.heap[D]?=_ from h]
 ·rw [World.putObj_heap_other e]
theorem fq.frozen {D:Nat} {o:Option (List Deferred)} {W:World} (h:fq D W) (a:Addr):(W.putObj D (.deferred o)).frozen? a=W.frozen? a:=by
 unfold World.frozen?
 by_cases e:a.block=D
 ·rw [e,World.putObj_heap_same h.size,show W.heap[D]?=_ from h]
 ·rw [World.putObj_heap_other e]
def mark (D:Nat):Deferred:={ target:=.collected D,args:=#[] }
theorem leaves {n:Nat} {P:Program} {fn:Func} {tmps:Array Value} {R:Ending->World->Prop} (B:Nat):∀ (ds:List Nat) (W:World),ds.Nodup->(∀ D,D∈ds->fq D W/\B<=D) ->
  (∀ W',Below B W W'->(∀ a,W'.cell? a=W.cell? a)->(∀ a,W'.frozen? a=W.frozen? a)->∃ v,(results fn tmps).run P W'=.ok v W'/\R (.returned v) W') ->
  LeavesInM Fence.wide n P fn tmps R (ds.map mark) .returning W
 | [],W,_,_,h=>h W (Below.refl _ _) (fun _=>rfl) (fun _=>rfl)
 | D :: ds,W,hn,hD,h=>by
  rw [List.nodup_cons] at hn;obtain ⟨hd,hB⟩:=hD D (by simp);have hb:Below B W (W.putObj D (.deferred none)):=⟨rfl,rfl,rfl,by simp,fun k hk=>World.putObj_heap_other (by omega)⟩;refine ⟨by simp,.inl ⟨D,_,rfl,run_takeDeferred hd,leaves B ds _ hn.2 (fun D' iR=>?_) (fun W' h1 h2 h3=>?_)⟩⟩
  ·refine ⟨(World.putObj_heap_other ?_).trans (hD D' (by simp [iR])).1,(hD D' (by simp [iR])).2⟩
   intro e; exact hn.1 (e▸iR)
  ·exact h W' (hb.trans h1) (fun a=>(h2 a).trans (hd.cell a)) (fun a=>(h3 a).trans (hd.frozen a))
theorem iK {P:Program} {f:FuncId} {fn:Func} {c:Code} {args:Array Value} {w:World} {R:Ending->World->Prop}
  (hf:P.funcs[f]?=some fn) (hb:fn.body=some c)
  (h:c.wp P (bodyPostM Fence.wide 0 P fn R) { tmps:=args++Array.replicate (fn.ntmps - args.size) undef,defers:=[] } w):Calls P f args w R :=
 callsIn_wide.1 (callsIn_of_wp_marks (n:=0) hf hb trivial (wpIn_wide.2 h))
end Go.Proofs.RF
namespace Go.Proofs.YtpedbljnhnoohaaGreat
open Go.Proofs
section
open Go.RowKit
open Go.Shelf
attribute [local irreducible] Go.Calls Go.wpList
structure KK (B n₀:Nat) (W W':World):Prop where
 keeps:KeepsFrom B W W'
 cU:Below n₀ W W'
 le:n₀<=W.heap.size
theorem KK.refl {B n₀:Nat} {W:World} (h:n₀<=W.heap.size):KK B n₀ W W:=⟨KeepsFrom.refl _ _,Below.refl _ _,h⟩
theorem KK.acc {tD:World} (h:KK B n₀ W W') (hb:Below W'.heap.size W' tD):KK B n₀ W tD :=
 ⟨h.keeps.trans ⟨hb.size,fun k o _ hk _=>(hb.block k (Array.getElem?_eq_some_iff.1 hk).1).trans hk⟩,h.cU.trans (hb.mono (Nat.le_trans h.le h.cU.size)),h.le⟩
theorem KK.set (h:KK B n₀ W W') {b o:Nat} (v:Value) (hb:n₀<=b):KK B n₀ W (W'.setCell ⟨b,o,none⟩ v) :=
 ⟨h.keeps.trans ((KeepsOthers.setCell _ _ _).from _),h.cU.setCell (p:=⟨b,o,none⟩) hb v,h.le⟩
theorem KK.grown {B n₀:Nat} {W W' tD:World} (h:KK B n₀ W W') {e:TypeId} {v:Value} {n size:Nat} {xs:List Value} (hr:W'.ownsRow n₀ e size v n xs) (hg:W'.grownBy tD v.ownBlock):KK B n₀ W tD :=
 ⟨h.keeps.trans ((KeepsOthers.of_grownBy hg (fun j o e1 e2=>by
  obtain ⟨_,h2⟩:=hr
  rcases h2 with ⟨h3,_⟩ | ⟨g,cap,cur,h3,uT,hc,_⟩
  ·rw [h3] at e1; simp [Value.ownBlock] at e1
  ·rw [h3] at e1
   simp [Value.ownBlock] at e1;subst e1;rw [hc] at e2
   cases e2; rfl)).from _),h.cU.grown hg (Nat.le_trans h.le h.cU.size) (fun j hj=>(hr.lt j hj).1),h.le⟩
theorem xd (n:Int) (ov rv:Value) (w:World) :
  Calls Tryz.prog 74 #[.agg #[.int .i64 n,ov,rv]] w fun e w'=>∃ fb,e=.returned (.func (.func 97) #[] #[.pointer (some ⟨fb,0,none⟩)])/\CL w' fb 2 rv/\BE w w':=by
 go_enter Tryz.func74,Tryz.ntmps74
 have aN:=eA w (.int .i64 n) ov rv;go_upto_region 0 with fail;refine c6<|k8 (Rg.aY _ _ rfl rfl) ?_;go_frame;have hb:BE w (w.alloc (.cells #[.int .i64 n,ov,rv] 25)):=(Below.refl _ _).alloc (Nat.le_refl _) _;generalize w.alloc (.cells #[.int .i64 n,ov,rv] 25)=w1 at *;have H:=U aN.2.2;have K:=U hb;clear aN hb;go_wp2;go_ret;exact ⟨_,rfl,H.u,K.u⟩
structure Er (n₀:Nat) (w:World) (ad:Option Addr) (m:Nat) (RV:Nat->Value):Prop where
 le:m<=1000000000
 Rv:0<m->∃ b off,ad=some ⟨b,off,none⟩/\b<n₀
 cells:∀ b off,ad=some ⟨b,off,none⟩->∀ j,j<m->w.cell? ⟨b,off+j,none⟩=some (RV j)
 sz:n₀<=w.heap.size
theorem Er.p {w:World} {ad:Option Addr} {m:Nat} {RV:Nat->Value} (h:Er n₀ w ad m RV) (hb:Below n₀ w w'):Er n₀ w' ad m RV :=
 ⟨h.le,h.Rv,fun b off e j hj=>by
  obtain ⟨b',abJ,e',az⟩:=h.Rv (by omega);rw [e] at e';simp only [Option.some.injEq,Addr.mk.injEq,and_true] at e';obtain ⟨rfl,rfl⟩:=e'
  exact (hb.cell (p:=⟨b,off+j,none⟩) az).trans (h.cells b off e j hj),Nat.le_trans h.sz hb.size⟩
theorem xZ {w:World} {m cap fb:Nat} {ad:Option Addr} {RV:Nat->Value} (h:Er n₀ w ad m RV) (nP:CL w fb 2 (.slice ad m cap)) (n:Nat) (hn:1<=n) :
  SeqStopsK Fence.wide n Tryz.prog 97 #[.pointer (some ⟨fb,0,none⟩)] (fun x:Fin m=>#[Value.int .i64 ((x.1:Nat):Int),RV x.1]) (Below n₀) (fun ys=>ys=eF m m) (fun pre=>∃ k,k<=m/\pre=eF m k) m w:=fun l J Jx W hW _ _ hY h0=>by
 have h':=h.p (hW.mono h.sz);exact Ox Fence.wide n trivial rfl hn l fb n₀ m cap ad RV h.le h.Rv J Jx hY W ((hW.cell (p:=⟨fb,2,none⟩) nP.lt).trans nP.cell) h'.cells h0
theorem x3 {g:Operand} {ps:Array Go.Tmp} {assign body:Code} {Q:Exit->Act->World->Prop} {a:Act} {w:World} {m cap fb:Nat} {ad:Option Addr} {RV:Nat->Value}
  (hg:a.eval g=.func (.func 97) #[] #[.pointer (some ⟨fb,0,none⟩)]) (nP:CL w fb 2 (.slice ad m cap)) (h:Er n₀ w ad m RV) (Hs:ps.size=2)
  (I:List (Fin m)->World->Prop) (Ix:Code->List (Fin m)->World->Prop) (hI:OwnFrom w.heap.size I) (hIx:∀ c,OwnFrom w.heap.size (Ix c)) (h0:I [] w) (oM:Fin m->Act)
  (qR:∀ (l:Nat) (x:Fin m) (W:World) (K:Act->World->Prop),K (oM x) W->assign.wpIn (Fence.wide.inRound l) 1 Tryz.prog (Exit.then K (fun _ _ _=>False)) { tmps:=(ps.zip #[Value.int .i64 ((x.1:Nat):Int),RV x.1]).foldl (fun t (p,v)=>t.setIfInBounds p v) a.tmps,defers:=[] } W)
  (zX:∀ (l:Nat) (pre:List (Fin m)) (x:Fin m) (W:World),I pre W->pre.length<m->body.wpIn (Fence.wide.inRound l) 1 Tryz.prog (ownPostG w.heap.size (Below n₀) I Ix (pre++[x]) W) (oM x) W)
  (zY:∀ (D:Nat) (W:World),w.heap.size<=D->I (eF m m) W->RF.fq D W->Q .normal { a with defers:=RF.mark D :: a.defers } W)
  (zZ:∀ (D:Nat) (c:Code) (pre:List (Fin m)) (W:World),w.heap.size<=D->Ix c pre W->RF.fq D W->c.wp Tryz.prog Q { a with defers:=RF.mark D :: a.defers } W) :
  (Code.rangeFunc g ps assign body).wp Tryz.prog Q a w :=
 wpIn_wide.1 (wpIn_rangeFunc_ownG (F:=Fence.wide) (n:=3) rfl (by decide) (gf:=97) (lb:=#[.pointer (some ⟨fb,0,none⟩)]) hg trivial (enters_of Tryz.func97 (by kernel_rfl) rfl)
  (xZ h nP 2 (by decide)) belowK_t (belowK_b h.sz) (Below.refl _ _) (fun _=>Hs.symm) I Ix hI hIx h0 oM qR zX
  (fun D xs W hD hx hi hd=>by subst hx; exact zY D W hD hi hd) (fun D c pre W hD _ hi hd=>wpIn_wide.2 (zZ D c pre W hD hi hd)))
end
section
open Go.Proofs.Cm (Gr Gd ar cz St)
theorem Rw {l:List Nat} {a b:Nat} (h:l.Pairwise (· < ·)) (hr:∀ x∈l,a<=x/\x<b):l.length<=b - a:=by
 have h1:l.Nodup:=h.imp (fun {x y} az e=>by omega)
 have h2:=eZ (m:=List.range' a (b - a)) h1 (fun x hx=>by
  have:=hr x hx;rw [List.mem_range'_1]
  omega)
 rwa [List.length_range'] at h2
theorem dO {α:Type} {l:List (List α)} {i:Nat} (h:i<l.length):l.getD i []=l[i]:=by rw [List.getD_eq_getElem?_getD,List.getElem?_eq_getElem h]; rfl
theorem Kt (h:ar n H O R) {r:List Nat} (hr:r∈R.flatten):∃ i k,i<n/\k<(O.getD i []).length/\r=(R.getD i []).getD k []:=by
 obtain ⟨l,hl,hr⟩:=List.mem_flatten.1 hr;obtain ⟨i,hi,rfl⟩:=List.getElem_of_mem hl;obtain ⟨k,hk,rfl⟩:=List.getElem_of_mem hr
 have aS:i<n:=by rw [<- h.iN]; exact hi
 have e1:=h.len i aS;rw [dO hi] at e1;exact ⟨i,k,aS,by omega,by rw [dO hi]; exact (Oy hk).symm⟩
where
 Oy {l:List (List Nat)} {k:Nat} (h:k<l.length):l.getD k []=l[k]:=by rw [List.getD_eq_getElem?_getD,List.getElem?_eq_getElem h]; rfl
theorem vt (h:ar n H O R) {r:List Nat} (hr:r∈R.flatten):H r:=by
 obtain ⟨i,k,hi,hk,rfl⟩:=Kt h hr;exact (h.rep i k hi hk).1.1.1
theorem Ku (hH:cz n H) (h:ar n H O R) (x:List Nat):H x↔Gr n (·∈R.flatten) x:=by
 have jr:∀ s,s∈R.flatten->Gd n s:=fun s hs=>hH.gd s (vt h hs)
 constructor
 ·intro hx
  have key:∀ d i x,i+d=n->St H i x->Gr n (·∈R.flatten) x:=by
   intro d
   induction d with
   | zero =>
    intro i x hi hx
    obtain rfl:i=n:=by omega
    rw [Cm.Fx.all (hH.gd x hx.1) hx.2];exact .one
   | succ d ih =>
    intro i x hi hx
    have aS:i<n:=by omega
    have gx:=hH.gd x hx.1;have hp:=(h.orb i (Cm.ap x i) aS).2 ⟨x,hx,rfl⟩;obtain ⟨k,hk,e⟩:=List.getElem_of_mem hp;have hl:=(h.rep i k aS hk).1
    have e2:(O.getD i []).getD k 0=Cm.ap x i:=by rw [List.getD_eq_getElem?_getD,List.getElem?_eq_getElem hk]; exact e
    rw [e2] at hl;have e3:=h.len i aS
    have UN:(R.getD i []).getD k []∈R.flatten:=by
     have Es:i<R.length:=by rw [h.iN]; exact aS
     rw [dO Es];rw [dO Es] at e3;rw [List.getD_eq_getElem?_getD,List.getElem?_eq_getElem (by omega)];exact List.mem_flatten.2 ⟨_,List.getElem_mem Es,List.getElem_mem _⟩
    generalize (R.getD i []).getD k []=r at *;have gr:=jr r UN
    have Bx:St H (i+1) (Ma.aq x (Ma.bf r)):=by
     refine ⟨hH.mul _ _ hx.1 (hH.inv _ hl.1.1),fun j hj=>?_⟩;rw [Cm.bL gx (by omega)]
     by_cases ej:j=i
     ·subst ej
      rw [<- hl.2];exact Cm.fh gr aS
     ·rw [hx.2 j (by omega)]
      exact Cm.Fx.inv gr (Nat.le_of_lt aS) hl.1.2 j (by omega)
    have h1:=ih (i+1) _ (by omega) Bx;have h2:=Gr.mul _ _ h1 (.gen r UN)
    rwa [Cm.mul_inv_cancel gx gr] at h2
  exact key n 0 x (by omega) ⟨hx,fun j hj=>absurd hj (Nat.not_lt_zero _)⟩
 ·intro hx
  exact Gr.sub hH (fun s hs=>vt h hs) hx
theorem iz (hH:cz n H) (h:ar n H O R) {i:Nat} (hi:i<n):(O.getD i []).length<=n - i:=by
 refine Rw (h.jB i hi) fun p hp=>?_;obtain ⟨x,hx,rfl⟩:=(h.orb i p hi).1 hp;have gx:=hH.gd x hx.1;refine ⟨Nat.le_of_not_lt fun az=>?_,Cm.cS gx hi⟩;have e:=hx.2 _ az;have:=Cm.kN gx (Nat.lt_trans az hi) hi e;omega
def fF (n:Int) (OO:List (List Int)) (RR:List (List (List Int))):Prop:=∃ (N:Nat) (O:List (List Nat)) (R:List (List (List Nat))),n=((N:Nat):Int)/\1<=N/\N<=64/\OO=O.map Ma.ah/\RR=R.map (List.map Ma.ah)/\ar N (Gr N (·∈R.flatten)) O R/\∀ s∈R.flatten,Gd N s
def pE (n:Int) (OO:List (List Int)) (RR:List (List (List Int))) (c:Int):Prop:=(¬ (1<=n/\n<=64)/\c=2)∨((1<=n/\n<=64)/\((fF n OO RR/\c=0)∨(¬ fF n OO RR/\c=3)))
theorem pE.uniq {n:Int} {c c':Int} (h:pE n OO RR c) (h':pE n OO RR c'):c=c':=by
 rcases h with ⟨a,rfl⟩ | ⟨a,⟨b,rfl⟩ | ⟨b,rfl⟩⟩ <;> rcases h' with ⟨a',rfl⟩ | ⟨a',⟨b',rfl⟩ | ⟨b',rfl⟩⟩ <;> first | rfl | exact absurd a a' | exact absurd a' a | exact absurd b b' | exact absurd b' b
theorem pE.zero {n:Int} (h:pE n OO RR 0):fF n OO RR:=by
 rcases h with ⟨_,e⟩ | ⟨_,⟨b,_⟩ | ⟨_,e⟩⟩
 ·cases e
 ·exact b
 ·cases e
theorem pE.of {n:Int} (h:fF n OO RR):pE n OO RR 0:=by
 obtain ⟨N,O,R,e,h1,h2,_⟩:=id h;exact .inr ⟨by omega,.inl ⟨h,rfl⟩⟩
theorem fF.lens {n:Int} (h:fF n OO RR):(OO.length:Int)=n/\(RR.length:Int)=n:=by
 obtain ⟨N,O,R,rfl,h1,h2,rfl,rfl,hc,_⟩:=h;rw [List.length_map,List.length_map,hc.i_,hc.iN];exact ⟨rfl,rfl⟩
theorem fF.row {n:Int} (h:fF n OO RR) {i:Nat} (hi:i<RR.length) (iE:i<OO.length):RR[i].length=OO[i].length/\(RR[i].length:Int)<=n - (i:Int):=by
 obtain ⟨N,O,R,rfl,h1,h2,rfl,rfl,hc,hg⟩:=h;rw [List.length_map] at hi iE
 have aS:i<N:=by rw [<- hc.iN]; exact hi
 have e1:=hc.len i aS;have e2:=iz (Gr.dE (gs:=(·∈R.flatten)) hg) hc aS;rw [dO iE] at e1 e2;rw [dO hi] at e1;simp only [List.getElem_map,List.length_map,Ma.aB];omega
theorem fF.perm {n:Int} (h:fF n OO RR) {i:Nat} (hi:i<RR.length) {x:List Int} (hx:x∈RR[i]):(x.length:Int)=n/\Ma.bY x=0:=by
 obtain ⟨N,O,R,rfl,h1,h2,rfl,rfl,hc,hg⟩:=h;rw [List.length_map] at hi;rw [List.getElem_map] at hx;obtain ⟨y,hy,rfl⟩:=List.mem_map.1 hx;have gy:=hg y (List.mem_flatten.2 ⟨_,List.getElem_mem hi,hy⟩);rw [Ma.aB,gy.2];exact ⟨rfl,Ma.nZ (by rw [Ma.aB,gy.2]; exact h1) (by rw [Ma.aB,gy.2]; exact h2) (Ma.uw gy.1)⟩
theorem dT:∀ {a b:List (List Nat)},a.map Ma.ah=b.map Ma.ah->a=b
 | [],[],_=>rfl
 | [],_ :: _,h=>by simp at h
 | _ :: _,[],h=>by simp at h
 | x :: a,y :: b,h=>by
  simp only [List.map_cons,List.cons.injEq] at h;rw [Ma.mg h.1,dT h.2]
theorem sQ (R:List (List (List Nat))):(R.map (List.map Ma.ah)).flatten=R.flatten.map Ma.ah:=by
 induction R with
 | nil=>rfl
 | cons r R ih=>simp only [List.map_cons,List.flatten_cons,List.map_append,ih]
theorem fF.same (h1:1<=N) (h2:N<=64) (hg:∀ s∈gs,Gd N s) (jr:RR.flatten=gs.map Ma.ah) (hc:ar N (Gr N (·∈gs)) O R) :
  fF (N:Int) OO RR↔OO=O.map Ma.ah/\RR=R.map (List.map Ma.ah):=by
 constructor
 ·rintro ⟨N',O',R',e,_,_,rfl,rfl,Bv,_⟩
  obtain rfl:N=N':=by omega
  rw [sQ] at jr;have:=dT jr;subst this;obtain ⟨rfl,rfl⟩:=hc.uniq Bv;exact ⟨rfl,rfl⟩
 ·rintro ⟨rfl,rfl⟩
  rw [sQ] at jr;have:=dT jr;subst this;exact ⟨N,O,R,rfl,h1,h2,rfl,rfl,hc,hg⟩
theorem Db (h1:1<=N) (h2:N<=64) (hg:∀ s∈gs,Gd N s) (hc:ar N (Gr N (·∈gs)) O R):fF ((N:Nat):Int) (O.map Ma.ah) (R.map (List.map Ma.ah)):=by
 have hH:=Gr.dE (n:=N) (gs:=(·∈gs)) hg;have e:Gr N (·∈gs)=Gr N (·∈R.flatten):=funext fun x=>propext (Ku hH hc x);refine ⟨N,O,R,rfl,h1,h2,rfl,rfl,?_,fun s hs=>hH.gd s (vt hc hs)⟩;rw [<- e];exact hc
end
section
open Go.RowKit
open Go.Proofs.Ob
open Go.Shelf
open Go.Proofs.Cm (Lv bx cw)
attribute [local go_sem] Oper.semAt_some
attribute [local irreducible] Go.Calls Go.wpList Go.wpListIn
theorem Kv (args:Array Value) (w:World):(callFunc 74 args).run Tryz.prog w=.ok (.enter 74 args) w:=by kernel_rfl
theorem z1 (args:Array Value) (w:World):(callFunc 68 args).run Tryz.prog w=.ok (.enter 68 args) w:=by kernel_rfl
theorem Rx (args:Array Value) (w:World):(callFunc 69 args).run Tryz.prog w=.ok (.enter 69 args) w:=by kernel_rfl
theorem Ry (args:Array Value) (w:World):(callFunc 70 args).run Tryz.prog w=.ok (.enter 70 args) w:=by kernel_rfl
theorem Yf (args:Array Value) (w:World):(callFunc 96 args).run Tryz.prog w=.ok (.enter 96 args) w:=by kernel_rfl
theorem z6:(Tryz.prog.info? 30).map (fun i=>(i.zero,i.size,i.bytes))=some (some (.int .i64 0),1,8):=by kernel_rfl
theorem vu {o:Oper} {a:Act} {w:World} (ho:o.op=.alloc 30):(execOp a.eval o).run Tryz.prog w=.ok (.value (.pointer (some ⟨w.heap.size,0,none⟩))) (w.alloc (.cells #[.int .i64 0] 30)):=by
 obtain ⟨i0,hi,dw,bJ,dZ⟩:=info_parts z6;unfold execOp;simp [ho,Instr.alloc,typeInfo,zeroValue,hi,dw,newVar,Value.cells,Result.andThen];rfl
theorem pF {o:Oper} {a:Act} {w:World} (ho:o.op=.alloc 3):(execOp a.eval o).run Tryz.prog w=.ok (.value (.pointer (some ⟨w.heap.size,0,none⟩))) (w.alloc (.cells #[.int .i64 0] 3)):=by
 obtain ⟨i0,hi,dw,bJ,dZ⟩:=info_parts wH;unfold execOp;simp [ho,Instr.alloc,typeInfo,zeroValue,hi,dw,newVar,Value.cells,Result.andThen];rfl
theorem nQ {o:Oper} {a:Act} {w:World} (ho:o.op=.alloc 41):(execOp a.eval o).run Tryz.prog w=.ok (.value (.pointer (some ⟨w.heap.size,0,none⟩))) (w.alloc (.cells #[.slice none 0 0] 41)):=by
 obtain ⟨i0,hi,dw,bJ,dZ⟩:=info_parts fk;unfold execOp;simp [ho,Instr.alloc,typeInfo,zeroValue,hi,dw,newVar,Value.cells,Result.andThen];rfl
theorem dt {w:World} {b o:Nat} {u:Value} (v:Int) (h:w.cell? ⟨b,o,none⟩=some u) (hf:w.frozen? ⟨b,o,none⟩=false) :
  (storeVar 30 ⟨b,o,none⟩ (.int .i64 v)).run Tryz.prog w=.ok () (w.setCell ⟨b,o,none⟩ (.int .i64 v)):=by
 obtain ⟨i0,hi,dw,bJ,dZ⟩:=info_parts z6
 have h0:(⟨b,o,none⟩:Addr).add 0=⟨b,o,none⟩:=by simp [Addr.add]
 simp [storeVar,sizeOf,typeInfo,hi,bJ,Value.cells,storeCells,store,h0];simp [Sem.run,h,hf]
theorem pG {w:World} {ad:Addr} (h:w.cell? ad=some v):(loadVar 30 ad).run Tryz.prog w=.ok v w:=by
 simp [loadVar,isAgg,run_underlying Tryz.underlying30,load];simp [Sem.run,h]
theorem z7 {fn:Func} {p:Go.Tmp} (h:fn.results=#[.cell p 30]) (tmps:Array Value) {w:World} {b:Nat} (hp:tmps.getD p undef=.pointer (some ⟨b,0,none⟩)) (hc:w.cell? ⟨b,0,none⟩=some v) :
  (results fn tmps).run Tryz.prog w=.ok v w:=by
 have DV:tmps[p]?.getD undef=.pointer (some ⟨b,0,none⟩):=by simpa using hp
 simp [results,h,DV,asAddr,pG hc]
theorem aC {w:World} {b:Nat} {x y:Value} (h0:w.cell? ⟨b,0,none⟩=some x) (h1:w.cell? ⟨b,1,none⟩=some y) (h2:w.cell? ⟨b,2,none⟩=some z):(loadVar 25 ⟨b,0,none⟩).run Tryz.prog w=.ok (.agg #[x,y,z]) w:=by
 obtain ⟨i0,hi,dw,bJ,dZ⟩:=info_parts iu
 have zE:(⟨b,0,none⟩:Addr).add 0=⟨b,0,none⟩:=by simp [Addr.add]
 have kF:(⟨b,0,none⟩:Addr).add 1=⟨b,1,none⟩:=by simp [Addr.add]
 have oA:(⟨b,0,none⟩:Addr).add 2=⟨b,2,none⟩:=by simp [Addr.add]
 have hg:(isAgg 25).run Tryz.prog w=.ok true w:=by kernel_rfl
 simp [loadVar,hg,sizeOf,typeInfo,hi,bJ,loadCells,loadCellsFrom,load,zE,kF,oA];simp [Sem.run,h0,h1,h2]
structure CW (w:World) (b:Nat) (v:Value):Prop where
 c:w.cell? ⟨b,0,none⟩=some v
 f:w.frozen? ⟨b,0,none⟩=false
 lt:b<w.heap.size
theorem CW.p {w:World} {b:Nat} (h:CW w b v) (hb:BE w w'):CW w' b v:=⟨(hb.cell (p:=⟨b,0,none⟩) h.lt).trans h.c,(hb.frozen (p:=⟨b,0,none⟩) h.lt).trans h.f,Nat.lt_of_lt_of_le h.lt hb.size⟩
theorem CW.new (w:World) (v:Value) (t:TypeId):CW (w.alloc (.cells #[v] t)) w.heap.size v:=⟨by rw [Rg.aW]; rfl,kR _ _ _ 0 _,by simp⟩
theorem CW.set {w:World} {b:Nat} {u:Value} (h:CW w b u) (v:Value):CW (w.setCell ⟨b,0,none⟩ v) b v:=⟨World.cell?_setCell_same (h:=h.c) ..,by rw [World.frozen?_setCell]; exact h.f,by simpa using h.lt⟩
theorem CW.other {w:World} {b b' o:Nat} {u:Value} (h:CW w b u) (v:Value) (hne:b≠b'):CW (w.setCell ⟨b',o,none⟩ v) b u:=⟨by rw [World.cell?_setCell_other (h:=by intro e; injection e with e1 e2; omega) ..]; exact h.c,by rw [World.frozen?_setCell]; exact h.f,by simpa using h.lt⟩
theorem CL.other {w:World} {b b' o o':Nat} {u:Value} (h:CL w b o' u) (v:Value) (hne:b≠b'):CL (w.setCell ⟨b',o,none⟩ v) b o' u:=⟨by rw [World.cell?_setCell_other (h:=by intro e; injection e with e1 e2; omega) ..]; exact h.cell,by simpa using h.lt⟩
theorem CW.kp {w:World} {b:Nat} (h:CW w b v) (hk:Rg.Kp M w w') (hM:¬ M b):CW w' b v :=
 ⟨(World.cell?_of_block (a:=⟨b,0,none⟩) (hk.block b h.lt hM)).trans h.c,(World.frozen?_of_block (a:=⟨b,0,none⟩) (hk.block b h.lt hM)).trans h.f,Nat.lt_of_lt_of_le h.lt hk.size⟩
theorem CL.kp {w:World} {b o:Nat} (h:CL w b o v) (hk:Rg.Kp M w w') (hM:¬ M b):CL w' b o v :=
 ⟨(World.cell?_of_block (a:=⟨b,o,none⟩) (hk.block b h.lt hM)).trans h.cell,Nat.lt_of_lt_of_le h.lt hk.size⟩
structure yJ (w:World) (n:Int) (ov rv:Value) (W:World) (v:Value) (gs:List (List Nat)):Prop where
 cU:BE w W
 a0:CL W w.heap.size 0 (.int .i64 n)
 a1:CL W w.heap.size 1 ov
 a2:CL W w.heap.size 2 rv
 c2:CW W (w.heap.size+1) (.int .i64 0)
 c3:CW W (w.heap.size+2) (.int .i64 n)
 c4:CW W (w.heap.size+3) v
 row:dD (fun k=>k<w.heap.size) (w.heap.size+4) W v gs
theorem yJ.p {w:World} {n:Int} {ov rv:Value} {W W':World} {v:Value} {gs:List (List Nat)} (h:yJ w n ov rv W v gs) (hb:BE W W'):yJ w n ov rv W' v gs :=
 ⟨Rg.acc h.cU hb,h.a0.p hb,h.a1.p hb,h.a2.p hb,h.c2.p hb,h.c3.p hb,h.c4.p hb,h.row.p hb⟩
theorem yJ.keep {w:World} {n:Int} {row:Option Nat} (h:yJ w n ov rv W v gs) (hB:w.heap.size+4<=B) (hg:W.grownBy W' row) (hr:∀ r,row=some r->B<=r/\∃ o:Obj,W.heap[r]?=some o/\o.isCells=false):yJ w n ov rv W' v gs:=by
 have hk:Rg.Kp (fun k=>row=some k) W W':=Rg.Kp.cC hg fun _ e=>e
 have hM:∀ b,b<B->¬ row=some b:=fun b hb e=>by have:=(hr b e).1; omega
 obtain ⟨us,h1,h2⟩:=h.row.own;refine ⟨h.cU.grown hg h.cU.size (fun k e=>by have:=(hr k e).1; omega),h.a0.kp hk (hM _ (by omega)),h.a1.kp hk (hM _ (by omega)),h.a2.kp hk (hM _ (by omega)),h.c2.kp hk (hM _ (by omega)),h.c3.kp hk (hM _ (by omega)),h.c4.kp hk (hM _ (by omega)),⟨Nat.le_trans h.row.size hk.size,us,im h1 hk (fun k e1 e2=>?_),h2.kp hk (fun k dF=>hM k (by omega))⟩⟩;obtain ⟨_,o,ho,hc⟩:=hr k e1;obtain ⟨_,h3⟩:=h1
 rcases h3 with ⟨h4,_⟩ | ⟨g,cap,cur,h4,_,h5,_⟩
 ·rw [h4] at e2; simp [Value.ownBlock] at e2
 ·rw [h4] at e2
  simp [Value.ownBlock] at e2;subst e2;rw [h5] at ho
  cases ho; cases hc
def rowOf (RR:List (List (List Int))) {m:Nat} (x:Fin m):List (List Int):=RR.getD x.1 []
theorem CW.upto {w:World} {b:Nat} (h:CW w b v) (hb:Below B w w') (hB:b<B):CW w' b v:=⟨(hb.cell (p:=⟨b,0,none⟩) hB).trans h.c,(hb.frozen (p:=⟨b,0,none⟩) hB).trans h.f,Nat.lt_of_lt_of_le h.lt hb.size⟩
theorem CL.upto {w:World} {b o:Nat} (h:CL w b o v) (hb:Below B w w') (hB:b<B):CL w' b o v:=⟨(hb.cell (p:=⟨b,o,none⟩) hB).trans h.cell,Nat.lt_of_lt_of_le h.lt hb.size⟩
theorem bl.mk {w:World} (h1:Rg.Rows w ov OO) (h2:gC w rv RR):bl w ov rv OO RR:=⟨h1,h2⟩
theorem bl.upto {w:World} (h:bl w ov rv OO RR) (hb:BE w w'):bl w' ov rv OO RR:=h.p hb
theorem _root_.Go.Proofs.RF.fq.p (h:RF.fq D W) (hb:BE W W'):RF.fq D W':=h.pD hb
theorem KK.p {tD:World} (h:KK B n₀ W W') (hb:Below W'.heap.size W' tD):KK B n₀ W tD:=h.acc hb
theorem Oz {n m:Int} {sx tP:Value} {oK:List (List Int)} {iQ:List (List (List Int))} {w:World} (h1:bl w ov rv OO RR) (h2:bl w sx tP oK iQ) {b:Bool} (hb:Hid (decide (n=m/\OO=oK/\RR=iQ)=b)) :
  Calls Tryz.prog 96 #[.agg #[.int .i64 n,ov,rv],.agg #[.int .i64 m,sx,tP]] w fun e w'=>e=.returned (.bool b)/\BE w w':=by
 rw [<- hb.u]; exact Hm h1 h2
theorem yJ.store {w:World} {n:Int} {v':Value} {gs':List (List Nat)} (h:yJ w n ov rv W v gs) (hb:Below (w.heap.size+4) W X) (hr:dD (fun k=>k<w.heap.size) (w.heap.size+4) X v' gs'):yJ w n ov rv (X.setCell ⟨w.heap.size+3,0,none⟩ v') v' gs':=by
 have hk:Rg.Kp (fun z=>z=w.heap.size+3) X (X.setCell ⟨w.heap.size+3,0,none⟩ v'):=Rg.Kp.aR rfl;obtain ⟨us,q1,q2⟩:=hr.own;refine ⟨(h.cU.trans (hb.mono (by omega))).setCell (p:=⟨w.heap.size+3,0,none⟩) (by show w.heap.size<=w.heap.size+3; omega) _,(h.a0.upto hb (by omega)).other _ (by omega),(h.a1.upto hb (by omega)).other _ (by omega),(h.a2.upto hb (by omega)).other _ (by omega),(h.c2.upto hb (by omega)).other _ (by omega),(h.c3.upto hb (by omega)).other _ (by omega),(h.c4.upto hb (by omega)).set _,⟨Nat.le_trans hr.size hk.size,us,im q1 hk (fun k e1 e2=>by have:=(q1.lt k e2).1; omega),q2.kp hk (fun k dF e=>by omega)⟩⟩
theorem KK.row {W1:World} {B2:Nat} (h:KK B n₀ W W1) (hk:Rg.Kp (fun k=>v.ownBlock=some k) W1 X) (hr:dD F B2 W1 v gs) (hn:n₀<=B2):KK B n₀ W X:=by
 obtain ⟨us,q1,q2⟩:=hr.own
 have U9:∀ j o,v.ownBlock=some j->W1.heap[j]?=some o->o.isCells=true:=fun j o e1 e2=>by
  obtain ⟨_,h3⟩:=q1
  rcases h3 with ⟨h4,_⟩ | ⟨g,cap,cur,h4,_,h5,_⟩
  ·rw [h4] at e1; simp [Value.ownBlock] at e1
  ·rw [h4] at e1
   simp [Value.ownBlock] at e1;subst e1;rw [h5] at e2
   cases e2; rfl
 refine ⟨h.keeps.trans ⟨hk.size,fun k o _ dF ho=>(hk.block k (Array.getElem?_eq_some_iff.1 dF).1 (fun e=>by rw [U9 k o e dF] at ho; cases ho)).trans dF⟩,h.cU.trans ⟨hk.os,hk.tape,hk.output,hk.size,fun k dF=>hk.block k (by have:=h.cU.size; have:=h.le; omega) (fun e=>by have:=(q1.lt k e).1; omega)⟩,h.le⟩
theorem Ht:(eF RR.length RR.length).flatMap (rowOf RR)=RR.flatten:=by
 rw [Ks];rw [List.flatMap_def]
 congr 1
 refine List.ext_getElem (by simp) fun i h1 h2=>?_;simp only [List.getElem_map,List.getElem_finRange];exact dO h2
def MH (n:Int) (OO:List (List Int)) (RR:List (List (List Int))) (w:World) (e:Ending) (w':World):Prop:=∃ c,e=.returned (.int .i64 c)/\pE n OO RR c/\BE w w'
theorem kK {n:Int} {w:World} {tmps:Array Value} {c:Int} {ds:List Nat} (hb:BE w W) (hc:CW W (w.heap.size+1) (.int .i64 c)) (hC:pE n OO RR c) (hp:tmps.getD 2 undef=.pointer (some ⟨w.heap.size+1,0,none⟩)) (hnd:ds.Nodup) (hD:∀ D,D∈ds->RF.fq D W/\w.heap.size<=D) :
  LeavesInM Fence.wide 0 Tryz.prog Tryz.f73 tmps (MH n OO RR w) (ds.map RF.mark) .returning W :=
 RF.leaves w.heap.size ds W hnd hD fun _ l1 l2 _=>⟨_,z7 rfl _ hp ((l2 _).trans hc.c),c,rfl,hC,hb.trans l1⟩
theorem Et {n:Int} {w:World} (h:bl w ov rv OO RR) :
  Calls Tryz.prog 73 #[.agg #[.int .i64 n,ov,rv]] w (MH n OO RR w):=by
 obtain ⟨oa,oc,rfl,_,Yg,_,_⟩:=h.1.shape;obtain ⟨ra,rc,rfl⟩:=h.2.shape;have HO:=U h.1;have HR:=U h.2;have K:=U (bi w)
 have hrL:RR.length<=1000000000:=by
  obtain ⟨us,⟨a,c,e,_,_,e2,_⟩,h2,_⟩:=h.2;unfold Rg.oY at e2;omega
 have H:=U h;clear h;refine RF.iK Tryz.func73 rfl ?_;simp only [Tryz.ntmps73,List.size_toArray,List.length_cons,List.length_nil,Nat.reduceAdd,Nat.reduceSub,Array.replicate_succ,Array.replicate_zero,List.push_toArray,List.append_toArray,List.nil_append,List.cons_append];have aN:=eA w (.int .i64 n) (.slice oa OO.length oc) (.slice ra RR.length rc)
 have hs:(w.alloc (.cells #[.int .i64 n,.slice oa OO.length oc,.slice ra RR.length rc] 25)).heap.size=w.heap.size+1:=by simp
 go_upto_region 0 with fail;refine c6<|k8 (Rg.aY _ _ rfl rfl) ?_;go_frame;have hb:BE w (w.alloc (.cells #[.int .i64 n,.slice oa OO.length oc,.slice ra RR.length rc] 25)):=(Below.refl _ _).alloc (Nat.le_refl _) _;generalize w.alloc (.cells #[.int .i64 n,.slice oa OO.length oc,.slice ra RR.length rc] 25)=w1 at *;have A0:=U aN.1;have A1:=U aN.2.1;have A2:=U aN.2.2;replace K:=U hb;have nB:w1.heap.size=w.heap.size+1:=hs;clear aN hb hs;have cO:=CW.new w1 (.int .i64 0) 30
 have hs:(w1.alloc (.cells #[.int .i64 0] 30)).heap.size=w1.heap.size+1:=by simp
 refine k8 (vu rfl) ?_;go_frame;have hb:=be w1 (.cells #[.int .i64 0] 30);generalize w1.alloc (.cells #[.int .i64 0] 30)=w2 at *;replace A0:=U (A0.u.p hb);replace A1:=U (A1.u.p hb);replace A2:=U (A2.u.p hb);replace K:=U (Rg.acc K.u hb);clear hb;rw [nB] at cO ⊢
 have jC:w2.heap.size=w.heap.size+2:=by omega
 have C2:=U cO;clear cO hs;go_upto_region 1 with fail;refine c6<|k8 (j4 (cT _ _))<|k8 (g7 (.int .i64 n) ⟨w.heap.size,0,none⟩ (af A0.u.cell)) ?_;go_frame;have cO:=CW.new w2 (.int .i64 0) 3
 have hs:(w2.alloc (.cells #[.int .i64 0] 3)).heap.size=w2.heap.size+1:=by simp
 refine k8 (pF rfl) ?_;go_frame;have hb:=be w2 (.cells #[.int .i64 0] 3);generalize w2.alloc (.cells #[.int .i64 0] 3)=w3 at *;replace A0:=U (A0.u.p hb);replace A1:=U (A1.u.p hb);replace A2:=U (A2.u.p hb);replace C2:=U (C2.u.p hb);replace K:=U (Rg.acc K.u hb);clear hb;rw [jC] at cO ⊢
 have Eu:w3.heap.size=w.heap.size+3:=by omega
 have C3:=U cO;clear cO hs;refine Rg.aG none rfl rfl (Rg.ak _ _ _ rfl _ rfl _ rfl (dS n C3.u.c C3.u.f)) ?_;go_frame;have hk:=K.u.setCell (p:=⟨w.heap.size+2,0,none⟩) (by show w.heap.size<=w.heap.size+2; omega) (.int .i64 n);have x0:=A0.u.other (o:=0) (b':=w.heap.size+2) (.int .i64 n) (by omega);have x1:=A1.u.other (o:=0) (b':=w.heap.size+2) (.int .i64 n) (by omega);have x2:=A2.u.other (o:=0) (b':=w.heap.size+2) (.int .i64 n) (by omega);have y2:=C2.u.other (o:=0) (b':=w.heap.size+2) (.int .i64 n) (by omega);have y3:=C3.u.set (.int .i64 n)
 have Rz:(w3.setCell ⟨w.heap.size+2,0,none⟩ (.int .i64 n)).heap.size=w.heap.size+3:=by simp; omega
 generalize w3.setCell ⟨w.heap.size+2,0,none⟩ (.int .i64 n)=w9 at *;replace K:=U hk;replace A0:=U x0;replace A1:=U x1;replace A2:=U x2;replace C2:=U y2;replace C3:=U y3;clear hk x0 x1 x2 y2 y3
 by_cases X7:n<1
 ·skip
  go_upto_region 2 with fail;refine c6<|k8 (g7 (.int .i64 n) ⟨(w.heap.size+2),0,none⟩ (af C3.u.c))<|k8 (g8 (.bool true) .lss (h:=aI _ f7))<|k7 rfl<|f9 14 ?_;go_frame;refine f9 15<|k8 (i8 (.bool true)) ?_;go_frame;go_upto_region 3 with fail;refine c6<|Rg.aG none rfl rfl (Rg.ak _ _ _ rfl _ rfl _ rfl (dt 2 C2.u.c C2.u.f)) ?_;go_frame;have hk:=K.u.setCell (p:=⟨w.heap.size+1,0,none⟩) (by show w.heap.size<=w.heap.size+1; omega) (.int .i64 2);have y2:=C2.u.set (.int .i64 2);generalize w9.setCell ⟨w.heap.size+1,0,none⟩ (.int .i64 2)=dB at *;have KX:=U hk;have CX:=U y2;have xe:=U (show pE n OO RR 2 from .inl ⟨by omega,rfl⟩);clear hk y2;go_wp2;exact kK (ds:=[]) KX.u CX.u xe.u rfl (by simp) (fun D hD=>by simp at hD)
 by_cases Ko:64<n
 ·skip
  go_upto_region 2 with fail;refine c6<|k8 (g7 (.int .i64 n) ⟨(w.heap.size+2),0,none⟩ (af C3.u.c))<|k8 (g8 (.bool false) .lss (h:=aI _ f8))<|k7 rfl<|k8 (g7 (.int .i64 n) ⟨(w.heap.size+2),0,none⟩ (af C3.u.c)) ?_;go_frame;refine k8 (g8 (.bool true) .gtr (h:=bA _ f7))<|k8 (i7 (.bool true)) ?_;go_frame;go_upto_region 3 with fail;refine c6<|Rg.aG none rfl rfl (Rg.ak _ _ _ rfl _ rfl _ rfl (dt 2 C2.u.c C2.u.f)) ?_;go_frame;have hk:=K.u.setCell (p:=⟨w.heap.size+1,0,none⟩) (by show w.heap.size<=w.heap.size+1; omega) (.int .i64 2);have y2:=C2.u.set (.int .i64 2);generalize w9.setCell ⟨w.heap.size+1,0,none⟩ (.int .i64 2)=dB at *;have KX:=U hk;have CX:=U y2;have xe:=U (show pE n OO RR 2 from .inl ⟨by omega,rfl⟩);clear hk y2;go_wp2;exact kK (ds:=[]) KX.u CX.u xe.u rfl (by simp) (fun D hD=>by simp at hD)
 go_upto_region 2 with fail;refine c6<|k8 (g7 (.int .i64 n) ⟨(w.heap.size+2),0,none⟩ (af C3.u.c))<|k8 (g8 (.bool false) .lss (h:=aI _ f8))<|k7 rfl<|k8 (g7 (.int .i64 n) ⟨(w.heap.size+2),0,none⟩ (af C3.u.c)) ?_;go_frame;refine k8 (g8 (.bool false) .gtr (h:=bA _ f8))<|k8 (i7 (.bool false)) ?_;go_frame
 by_cases mh:(OO.length:Int)=n
 case neg =>
  skip;go_upto_region 4 with fail;refine c6<|k8 (j4 (cp _ _))<|k8 (g7 (.slice oa OO.length oc) ⟨w.heap.size,1,none⟩ (Rg.ae _ _ Tryz.underlying22 A1.u.cell))<|k8 (g9 Tryz.underlying22)<|k8 (g7 (.int .i64 n) ⟨(w.heap.size+2),0,none⟩ (af C3.u.c)) ?_;go_frame;refine k8 (g8 (.bool true) .neq (h:=aE _ f7))<|k7 rfl<|f9 23<|f9 24<|f9 25 ?_;go_frame;refine f9 26<|f9 27<|k8 (i8 (.bool true)) ?_;go_frame;go_upto_region 5 with fail;refine c6<|Rg.aG none rfl rfl (Rg.ak _ _ _ rfl _ rfl _ rfl (dt 3 C2.u.c C2.u.f)) ?_;go_frame;have hk:=K.u.setCell (p:=⟨w.heap.size+1,0,none⟩) (by show w.heap.size<=w.heap.size+1; omega) (.int .i64 3);have y2:=C2.u.set (.int .i64 3);generalize w9.setCell ⟨w.heap.size+1,0,none⟩ (.int .i64 3)=dB at *;have KX:=U hk;have CX:=U y2;have xe:=U (show pE n OO RR 3 from .inr ⟨by omega,.inr ⟨fun hh=>mh hh.lens.1,rfl⟩⟩);clear hk y2;go_wp2;exact kK (ds:=[]) KX.u CX.u xe.u rfl (by simp) (fun D hD=>by simp at hD)
 by_cases qt:(RR.length:Int)=n
 case neg =>
  skip;go_upto_region 4 with fail;refine c6<|k8 (j4 (cp _ _))<|k8 (g7 (.slice oa OO.length oc) ⟨w.heap.size,1,none⟩ (Rg.ae _ _ Tryz.underlying22 A1.u.cell))<|k8 (g9 Tryz.underlying22)<|k8 (g7 (.int .i64 n) ⟨(w.heap.size+2),0,none⟩ (af C3.u.c)) ?_;go_frame;refine k8 (g8 (.bool false) .neq (h:=aE _ f8))<|k7 rfl<|k8 (j4 (cJ _ _))<|k8 (g7 (.slice ra RR.length rc) ⟨w.heap.size,2,none⟩ (Rg.ae _ _ Tryz.underlying23 A2.u.cell))<|k8 (g9 Tryz.underlying23) ?_;go_frame;refine k8 (g7 (.int .i64 n) ⟨(w.heap.size+2),0,none⟩ (af C3.u.c))<|k8 (g8 (.bool true) .neq (h:=aE _ f7))<|k8 (i7 (.bool true)) ?_;go_frame;go_upto_region 5 with fail;refine c6<|Rg.aG none rfl rfl (Rg.ak _ _ _ rfl _ rfl _ rfl (dt 3 C2.u.c C2.u.f)) ?_;go_frame;have hk:=K.u.setCell (p:=⟨w.heap.size+1,0,none⟩) (by show w.heap.size<=w.heap.size+1; omega) (.int .i64 3);have y2:=C2.u.set (.int .i64 3);generalize w9.setCell ⟨w.heap.size+1,0,none⟩ (.int .i64 3)=dB at *;have KX:=U hk;have CX:=U y2;have xe:=U (show pE n OO RR 3 from .inr ⟨by omega,.inr ⟨fun hh=>qt hh.lens.2,rfl⟩⟩);clear hk y2;go_wp2;exact kK (ds:=[]) KX.u CX.u xe.u rfl (by simp) (fun D hD=>by simp at hD)
 go_upto_region 4 with fail;refine c6<|k8 (j4 (cp _ _))<|k8 (g7 (.slice oa OO.length oc) ⟨w.heap.size,1,none⟩ (Rg.ae _ _ Tryz.underlying22 A1.u.cell))<|k8 (g9 Tryz.underlying22)<|k8 (g7 (.int .i64 n) ⟨(w.heap.size+2),0,none⟩ (af C3.u.c)) ?_;go_frame;refine k8 (g8 (.bool false) .neq (h:=aE _ f8))<|k7 rfl<|k8 (j4 (cJ _ _))<|k8 (g7 (.slice ra RR.length rc) ⟨w.heap.size,2,none⟩ (Rg.ae _ _ Tryz.underlying23 A2.u.cell))<|k8 (g9 Tryz.underlying23) ?_;go_frame;refine k8 (g7 (.int .i64 n) ⟨(w.heap.size+2),0,none⟩ (af C3.u.c))<|k8 (g8 (.bool false) .neq (h:=aE _ f8))<|k8 (i7 (.bool false)) ?_;go_frame;obtain ⟨N,rfl⟩:∃ N:Nat,n=N:=⟨n.toNat,by omega⟩
 have eI:1<=N:=by omega
 have z8:N<=64:=by omega
 have RB:=U (show OO.length=N by omega);have sy:=U (show RR.length=N by omega);clear mh qt X7 Ko;go_upto_region 6 with fail;refine c6 ?_;have cO:=CW.new w9 (.slice none 0 0) 41
 have hs:(w9.alloc (.cells #[.slice none 0 0] 41)).heap.size=w9.heap.size+1:=by simp
 refine k8 (nQ rfl) ?_;go_frame;have hb:=be w9 (.cells #[.slice none 0 0] 41);generalize w9.alloc (.cells #[.slice none 0 0] 41)=U_ at *;replace A0:=U (A0.u.p hb);replace A1:=U (A1.u.p hb);replace A2:=U (A2.u.p hb);replace C2:=U (C2.u.p hb);replace C3:=U (C3.u.p hb);replace K:=U (Rg.acc K.u hb);clear hb;rw [Rz] at cO ⊢
 have hs5:U_.heap.size=w.heap.size+4:=by omega
 have C4:=U cO;clear cO hs;have CI:=U (show yJ w (N:Int) (.slice oa OO.length oc) (.slice ra RR.length rc) U_ (.slice none 0 0) [] from ⟨K.u,A0.u,A1.u,A2.u,C2.u,C3.u,C4.u,dD.nil _ (by omega)⟩);have kI:=U hs5;clear A0 A1 A2 C2 C3 C4 nB jC Eu Rz hs5;go_upto_region 7 with fail;refine c6<|k8 (g7 ((.agg #[.int .i64 (N:Int),.slice oa OO.length oc,.slice ra RR.length rc])) ⟨w.heap.size,0,none⟩ (aC CI.u.a0.cell CI.u.a1.cell CI.u.a2.cell)) ?_;go_frame;refine f4 30 (aA 74 _ _ rfl rfl (Kv _ _)) ?_;refine (xd _ _ _ U_).mono ?_;rintro e1 gA ⟨fb,rfl,nP,hb⟩;have cR:=hb.size;refine ⟨_,rfl,?_⟩;go_frame;replace CI:=U (CI.u.p hb);replace K:=U (Rg.acc K.u hb);clear hb;have FB:=U nP;clear nP;have jS:=U (show w.heap.size+4<=gA.heap.size by have:=kI.u; omega);clear cR;obtain ⟨us,nz,z_,Hu⟩:=HR.u;have RC:=U Hu
 have Hv:Er w.heap.size gA ra RR.length (fun k=>us[k]?.getD undef):=by
  obtain ⟨a',c',e,q1,q2,q3,q4⟩:=nz
  injection e with e1 e2 e3
  refine ⟨by omega,fun h0=>?_,fun b off e5 j hj=>?_,K.u.size⟩
  ·obtain ⟨b,o,e4,e5,_⟩:=q4 (by omega)
   exact ⟨b,o,e1.trans e4,e5⟩
  ·obtain ⟨b',o',e4,e6,e7⟩:=q4 (by omega)
   rw [e1,e4] at e5;simp only [Option.some.injEq,Addr.mk.injEq,and_true] at e5;obtain ⟨rfl,rfl⟩:=e5;rw [(K.u.cell (p:=⟨b',o'+j,none⟩) e6)];show _=some (us[j]?.getD undef);rw [List.getElem?_eq_getElem (by omega)];exact e7 j (by omega)
 have Aa:=U Hv;have tQ:=U z_;clear nz Hv z_ Hu;go_wp2
 refine x3 rfl FB.u Aa.u rfl (fun pre W=>∃ v gs,yJ w ((N:Nat):Int) (.slice oa OO.length oc) (.slice ra RR.length rc) W v gs/\gs.map Ma.ah=pre.flatMap (rowOf RR)/\(∀ g∈gs,Cm.Gd N g)/\gs.length<=64*pre.length)
  (fun c pre W=>c=.ret/\BE w W/\CW W (w.heap.size+1) (.int .i64 3)/\¬ fF (N:Int) OO RR) ?hI ?hIx ⟨_,[],CI.u,rfl,fun g hg=>by simp at hg,Nat.zero_le _⟩ ?a1 ?assign ?body ?done ?stop
 case assign =>
  intro l x W K hK
  gi_wp2
  exact hK
 case hI =>
  rintro pre W W' row ⟨v,gs,h1,h2⟩ hg hr;exact ⟨v,gs,h1.keep (by have:=jS.u; omega) hg hr,h2⟩
 case hIx =>
  rintro c pre W W' row ⟨rfl,h1,h2,h3⟩ hg hr;exact ⟨rfl,h1.grown hg h1.size (fun k e=>by have:=(hr k e).1; have:=jS.u; omega),h2.kp (Rg.Kp.cC hg (M:=fun k=>row=some k) fun _ e=>e) (fun e=>by have:=(hr _ e).1; have:=jS.u; omega),h3⟩
 case body =>
  rintro l pre ⟨X,hX⟩ W ⟨v,gs,qT,vg,DP,kE⟩ OA;obtain ⟨B,hB⟩:∃ B,gA.heap.size=B:=⟨_,rfl⟩;rw [hB] at jS ⊢;clear FB Aa CI K hB;have CI:=U qT;have K:=U qT.cU;have KQ:=U (KK.refl (B:=B) (n₀:=w.heap.size) (W:=W) qT.cU.size);have Ee:=U vg;have BC:=U DP
  have aaQ:=U (show gs.length<=64*64 by
   have:pre.length<64:=by have:=sy.u; omega
   omega)
  have tR:=U hX;have aaR:=U kE;have tS:=U (show X<OO.length by have:=RB.u; have:=sy.u; omega);clear qT vg DP kE;have hu:=RC.u X (by rw [tQ.u]; exact hX) hX
  have e1:us[X]?.getD undef=us[X]'(by rw [tQ.u]; exact hX):=by rw [List.getElem?_eq_getElem (by rw [tQ.u]; exact hX)]; rfl
  rw [<- e1] at hu
  dsimp only
  generalize us[X]?.getD undef=u at *;clear e1;obtain ⟨r,hr⟩:∃ r:List (List Int),Hid (RR[X]'hX=r):=⟨_,U rfl⟩
  replace hu:Rg.Rows w u r:=by rw [<- hr.u]; exact hu
  obtain ⟨ua,uc,rfl,_,eQ,_,Hw⟩:=hu.shape;have Yh:=U Hw;obtain ⟨o',XA⟩:∃ o:List Int,Hid (OO[X]'tS.u=o):=⟨_,U rfl⟩;have nR:=HO.u.shape;obtain ⟨oa',Va,e2,_,_,_,nR⟩:=nR
  injection e2 with e3 _ e5
  subst e3 e5;obtain ⟨ob,oo,rfl,tx,nR⟩:=nR (by have:=tS.u; omega);obtain ⟨yv,OB,Ev⟩:=nR X tS.u;rw [show OO[X]=o' from XA.u] at Ev;obtain ⟨ya,yc,rfl,_⟩:=Ev.shape;have CO:=U (CL.mk OB tx);clear Hw nR OB Ev tx hu
  by_cases wT:(r.length:Int)=(o'.length:Int)
  case neg =>
   skip
   gi_upto_region 10 with fail
   refine wpIn_region_list ?_;refine Rg.aH (some 33) rfl rfl (fun _ hh=>by cases hh) (b5 (.slice ua r.length uc) _ rfl rfl) ?_;go_frame;refine Rg.aH (some 34) rfl rfl (fun _ hh=>by cases hh) (g9 Tryz.underlying41) ?_;go_frame;refine Rg.aH (some 35) rfl rfl (fun _ hh=>by cases hh) (j4 (cp _ _)) ?_;go_frame;refine Rg.aH (some 36) rfl rfl (fun _ hh=>by cases hh) (g7 (.slice (some ⟨ob,oo,none⟩) OO.length oc) ⟨w.heap.size,1,none⟩ (Rg.ae _ _ Tryz.underlying22 CI.u.a1.cell)) ?_;go_frame;refine Rg.aH (some 37) rfl rfl (fun _ hh=>by cases hh) (b5 (.int .i64 (X:Int)) _ rfl rfl) ?_;go_frame;refine Rg.aH (some 38) rfl rfl (fun _ hh=>by cases hh) (ag bM _ _ rfl ob (oo) (OO.length) oc (X) rfl rfl tS.u) ?_;go_frame;refine Rg.aH (some 39) rfl rfl (fun _ hh=>by cases hh) (g7 (.slice ya o'.length yc) ⟨ob,oo+X,none⟩ (Rg.ae _ _ Tryz.underlying26 ((Below.cell (p:=⟨ob,oo+X,none⟩) K.u CO.u.lt).trans CO.u.cell))) ?_;go_frame;refine Rg.aH (some 40) rfl rfl (fun _ hh=>by cases hh) (g9 Tryz.underlying26) ?_;go_frame;refine Rg.aH (some 41) rfl rfl (fun _ hh=>by cases hh) (g8 (.bool true) .neq (h:=aE _ f7)) ?_;go_frame;refine Rg.aH (some 42) rfl rfl (fun _ hh=>by cases hh) (b5 (.bool true) _ rfl rfl) ?_;go_frame;refine Rg.iJ (some 43) (by kernel_rfl) rfl ?_;go_frame;refine Rg.iJ (some 44) (by kernel_rfl) rfl ?_;go_frame;refine Rg.iJ (some 45) (by kernel_rfl) rfl ?_;go_frame;refine Rg.iJ (some 46) (by kernel_rfl) rfl ?_;go_frame;refine Rg.iJ (some 47) (by kernel_rfl) rfl ?_;go_frame;refine Rg.iJ (some 48) (by kernel_rfl) rfl ?_;go_frame;refine Rg.aH (some 49) rfl rfl (fun _ hh=>by cases hh) (i8 (.bool true)) ?_;go_frame
   gi_upto_region 11 with fail
   refine wpIn_region_list ?_;refine Rg.iy none rfl rfl (fun _ hh=>by cases hh) (Rg.ak _ _ _ rfl _ rfl _ rfl (dt 3 CI.u.c2.c CI.u.c2.f)) ?_;go_frame;have hk:=K.u.setCell (p:=⟨w.heap.size+1,0,none⟩) (by show w.heap.size<=w.heap.size+1; omega) (.int .i64 3);have y2:=CI.u.c2.set (.int .i64 3);have hq:=KQ.u.set (b:=w.heap.size+1) (o:=0) (.int .i64 3) (by omega);generalize W.setCell ⟨w.heap.size+1,0,none⟩ (.int .i64 3)=dB at *;have KX:=U hk;have CX:=U y2;have QX:=U hq;have Kw:=U (show ¬ fF (N:Int) OO RR from fun hh=>by have:=(hh.row tR.u tS.u).1; rw [show RR[X]=r from hr.u,show OO[X]=o' from XA.u] at this; omega);clear hk y2 hq
   gi_wp2
   exact ⟨QX.u.keeps,rfl,KX.u,CX.u,Kw.u⟩
  by_cases oI:(N:Int) - (X:Int)<(r.length:Int)
  case pos =>
   skip
   gi_upto_region 10 with fail
   refine wpIn_region_list ?_;refine Rg.aH (some 33) rfl rfl (fun _ hh=>by cases hh) (b5 (.slice ua r.length uc) _ rfl rfl) ?_;go_frame;refine Rg.aH (some 34) rfl rfl (fun _ hh=>by cases hh) (g9 Tryz.underlying41) ?_;go_frame;refine Rg.aH (some 35) rfl rfl (fun _ hh=>by cases hh) (j4 (cp _ _)) ?_;go_frame;refine Rg.aH (some 36) rfl rfl (fun _ hh=>by cases hh) (g7 (.slice (some ⟨ob,oo,none⟩) OO.length oc) ⟨w.heap.size,1,none⟩ (Rg.ae _ _ Tryz.underlying22 CI.u.a1.cell)) ?_;go_frame;refine Rg.aH (some 37) rfl rfl (fun _ hh=>by cases hh) (b5 (.int .i64 (X:Int)) _ rfl rfl) ?_;go_frame;refine Rg.aH (some 38) rfl rfl (fun _ hh=>by cases hh) (ag bM _ _ rfl ob (oo) (OO.length) oc (X) rfl rfl tS.u) ?_;go_frame;refine Rg.aH (some 39) rfl rfl (fun _ hh=>by cases hh) (g7 (.slice ya o'.length yc) ⟨ob,oo+X,none⟩ (Rg.ae _ _ Tryz.underlying26 ((Below.cell (p:=⟨ob,oo+X,none⟩) K.u CO.u.lt).trans CO.u.cell))) ?_;go_frame;refine Rg.aH (some 40) rfl rfl (fun _ hh=>by cases hh) (g9 Tryz.underlying26) ?_;go_frame;refine Rg.aH (some 41) rfl rfl (fun _ hh=>by cases hh) (g8 (.bool false) .neq (h:=aE _ f8)) ?_;go_frame;refine Rg.aH (some 42) rfl rfl (fun _ hh=>by cases hh) (b5 (.bool false) _ rfl rfl) ?_;go_frame;refine Rg.eB (some 43) rfl rfl (fun _ hh=>by cases hh) (b5 (.slice ua r.length uc) _ rfl rfl) ?_;go_frame;refine Rg.eB (some 44) rfl rfl (fun _ hh=>by cases hh) (g9 Tryz.underlying41) ?_;go_frame;refine Rg.eB (some 45) rfl rfl (fun _ hh=>by cases hh) (g7 (.int .i64 (N:Int)) ⟨(w.heap.size+2),0,none⟩ (af CI.u.c3.c)) ?_;go_frame;refine Rg.eB (some 46) rfl rfl (fun _ hh=>by cases hh) (b5 (.int .i64 (X:Int)) _ rfl rfl) ?_;go_frame;refine Rg.eB (some 47) rfl rfl (fun _ hh=>by cases hh) (g8 (.int .i64 ((N:Int) - (X:Int))) .sub (h:=nC _ (by omega) (by omega))) ?_;go_frame
   refine Rg.eB (some 48) rfl rfl (fun _ hh=>by cases hh) (g8 (.bool true) .gtr (h:=bA _ f7)) ?_;go_frame;refine Rg.aH (some 49) rfl rfl (fun _ hh=>by cases hh) (i7 (.bool true)) ?_;go_frame
   gi_upto_region 11 with fail
   refine wpIn_region_list ?_;refine Rg.iy none rfl rfl (fun _ hh=>by cases hh) (Rg.ak _ _ _ rfl _ rfl _ rfl (dt 3 CI.u.c2.c CI.u.c2.f)) ?_;go_frame;have hk:=K.u.setCell (p:=⟨w.heap.size+1,0,none⟩) (by show w.heap.size<=w.heap.size+1; omega) (.int .i64 3);have y2:=CI.u.c2.set (.int .i64 3);have hq:=KQ.u.set (b:=w.heap.size+1) (o:=0) (.int .i64 3) (by omega);generalize W.setCell ⟨w.heap.size+1,0,none⟩ (.int .i64 3)=dB at *;have KX:=U hk;have CX:=U y2;have QX:=U hq;have Kw:=U (show ¬ fF (N:Int) OO RR from fun hh=>by have:=(hh.row tR.u tS.u).2; rw [show RR[X]=r from hr.u] at this; omega);clear hk y2 hq
   gi_wp2
   exact ⟨QX.u.keeps,rfl,KX.u,CX.u,Kw.u⟩
  gi_upto_region 10 with fail
  refine wpIn_region_list ?_;refine Rg.aH (some 33) rfl rfl (fun _ hh=>by cases hh) (b5 (.slice ua r.length uc) _ rfl rfl) ?_;go_frame;refine Rg.aH (some 34) rfl rfl (fun _ hh=>by cases hh) (g9 Tryz.underlying41) ?_;go_frame;refine Rg.aH (some 35) rfl rfl (fun _ hh=>by cases hh) (j4 (cp _ _)) ?_;go_frame;refine Rg.aH (some 36) rfl rfl (fun _ hh=>by cases hh) (g7 (.slice (some ⟨ob,oo,none⟩) OO.length oc) ⟨w.heap.size,1,none⟩ (Rg.ae _ _ Tryz.underlying22 CI.u.a1.cell)) ?_;go_frame;refine Rg.aH (some 37) rfl rfl (fun _ hh=>by cases hh) (b5 (.int .i64 (X:Int)) _ rfl rfl) ?_;go_frame;refine Rg.aH (some 38) rfl rfl (fun _ hh=>by cases hh) (ag bM _ _ rfl ob (oo) (OO.length) oc (X) rfl rfl tS.u) ?_;go_frame;refine Rg.aH (some 39) rfl rfl (fun _ hh=>by cases hh) (g7 (.slice ya o'.length yc) ⟨ob,oo+X,none⟩ (Rg.ae _ _ Tryz.underlying26 ((Below.cell (p:=⟨ob,oo+X,none⟩) K.u CO.u.lt).trans CO.u.cell))) ?_;go_frame;refine Rg.aH (some 40) rfl rfl (fun _ hh=>by cases hh) (g9 Tryz.underlying26) ?_;go_frame;refine Rg.aH (some 41) rfl rfl (fun _ hh=>by cases hh) (g8 (.bool false) .neq (h:=aE _ f8)) ?_;go_frame;refine Rg.aH (some 42) rfl rfl (fun _ hh=>by cases hh) (b5 (.bool false) _ rfl rfl) ?_;go_frame;refine Rg.eB (some 43) rfl rfl (fun _ hh=>by cases hh) (b5 (.slice ua r.length uc) _ rfl rfl) ?_;go_frame;refine Rg.eB (some 44) rfl rfl (fun _ hh=>by cases hh) (g9 Tryz.underlying41) ?_;go_frame;refine Rg.eB (some 45) rfl rfl (fun _ hh=>by cases hh) (g7 (.int .i64 (N:Int)) ⟨(w.heap.size+2),0,none⟩ (af CI.u.c3.c)) ?_;go_frame;refine Rg.eB (some 46) rfl rfl (fun _ hh=>by cases hh) (b5 (.int .i64 (X:Int)) _ rfl rfl) ?_;go_frame;refine Rg.eB (some 47) rfl rfl (fun _ hh=>by cases hh) (g8 (.int .i64 ((N:Int) - (X:Int))) .sub (h:=nC _ (by omega) (by omega))) ?_;go_frame
  refine Rg.eB (some 48) rfl rfl (fun _ hh=>by cases hh) (g8 (.bool false) .gtr (h:=bA _ f8)) ?_;go_frame;refine Rg.aH (some 49) rfl rfl (fun _ hh=>by cases hh) (i7 (.bool false)) ?_;go_frame;have nO:=U (show gs.map Ma.ah=gs.map Ma.ah++r.take 0 by simp);have tz:=U (show gs.length<=gs.length+0 from Nat.le_refl _)
  gi_wp2
  gi_loopw [52] (fun jv wr=>∃ (j:Nat) (v:Value) (gs':List (List Nat)),jv=.int .i64 j/\j<=r.length/\Hid (yJ w ((N:Nat):Int) (.slice (some ⟨ob,oo,none⟩) OO.length oc) (.slice ra RR.length rc) wr v gs')/\Hid (KK B w.heap.size W wr)/\Hid (gs'.map Ma.ah=gs.map Ma.ah++r.take j)/\Hid (∀ g∈gs',Cm.Gd N g)/\Hid (gs'.length<=gs.length+j)) (fun jv _=>r.length - (intOf jv).toNat)
  case atStart=>exact ⟨0,_,_,rfl,Nat.zero_le _,CI,KQ,nO,BC,tz⟩
  case round =>
   clear CI KQ nO BC tz K;obtain ⟨j,v,gs',rfl,hj,CI,KQ,nO,BC,tz⟩:=hrel;have K:=U CI.u.cU;obtain ⟨va,vc,qf⟩:=CI.u.row.shape;subst qf
   by_cases wZ:j<r.length
   ·have yG:(j:Int)<(r.length:Int):=by omega
    have pC:=U wZ;obtain ⟨ub,uo,rfl,oN,sA⟩:=Yh.u (by omega);obtain ⟨xv,hxc,Ew⟩:=sA j wZ;obtain ⟨x,hx⟩:∃ x:List Int,Hid (r[j]'wZ=x):=⟨_,U rfl⟩
    replace Ew:Rg.Ints w xv x:=by rw [<- hx.u]; exact Ew
    obtain ⟨xa,xc,rfl,_⟩:=Ew.shape
    have qe:x.length<=1000000000:=by obtain ⟨m',a',c',e',_,G4⟩:=Ew.len; omega
    have CX:=U (CL.mk hxc oN);have XU:=U Ew;have RD:=U (show x∈RR[X]'tR.u by rw [show RR[X]'tR.u=r from hr.u,<- hx.u]; exact List.getElem_mem wZ);have Ky:=U (show gs'.length<1000000 by have:=tz.u; have:=aaQ.u; omega);clear sA hxc Ew oN
    gi_upto_region 14 with fail
    refine wpIn_region_list ?_;refine Rg.aH (some 54) rfl rfl (fun _ hh=>by cases hh) (ag aM _ _ rfl ub (uo) (r.length) uc (j) rfl rfl pC.u) ?_;go_frame;refine Rg.aH (some 55) rfl rfl (fun _ hh=>by cases hh) (g7 (.slice xa x.length xc) ⟨ub,uo+j,none⟩ (Rg.ae _ _ Tryz.underlying27 ((Below.cell (p:=⟨ub,uo+j,none⟩) K.u CX.u.lt).trans CX.u.cell))) ?_;go_frame;refine Rg.aH (some 8) rfl rfl (fun _ hh=>by cases hh) (b6 (.slice xa x.length xc) _ rfl rfl) ?_;go_frame
    by_cases px:(x.length:Int)=(N:Int)
    case neg =>
     skip
     gi_upto_region 15 with fail
     refine wpIn_region_list ?_;refine Rg.aH (some 56) rfl rfl (fun _ hh=>by cases hh) (b5 (.slice xa x.length xc) _ rfl rfl) ?_;go_frame;refine Rg.aH (some 57) rfl rfl (fun _ hh=>by cases hh) (g9 Tryz.underlying27) ?_;go_frame;refine Rg.aH (some 58) rfl rfl (fun _ hh=>by cases hh) (g7 (.int .i64 (N:Int)) ⟨(w.heap.size+2),0,none⟩ (af CI.u.c3.c)) ?_;go_frame;refine Rg.aH (some 59) rfl rfl (fun _ hh=>by cases hh) (g8 (.bool true) .neq (h:=aE _ f7)) ?_;go_frame;refine Rg.aH (some 60) rfl rfl (fun _ hh=>by cases hh) (b5 (.bool true) _ rfl rfl) ?_;go_frame;refine Rg.iJ (some 61) (by kernel_rfl) rfl ?_;go_frame;refine Rg.iJ (some 62) (by kernel_rfl) rfl ?_;go_frame;refine Rg.iJ (some 63) (by kernel_rfl) rfl ?_;go_frame;refine Rg.aH (some 64) rfl rfl (fun _ hh=>by cases hh) (i8 (.bool true)) ?_;go_frame
     gi_upto_region 16 with fail
     refine wpIn_region_list ?_;refine Rg.iy none rfl rfl (fun _ hh=>by cases hh) (Rg.ak _ _ _ rfl _ rfl _ rfl (dt 3 CI.u.c2.c CI.u.c2.f)) ?_;go_frame;have hk:=K.u.setCell (p:=⟨w.heap.size+1,0,none⟩) (by show w.heap.size<=w.heap.size+1; omega) (.int .i64 3);have y2:=CI.u.c2.set (.int .i64 3);have hq:=KQ.u.set (b:=w.heap.size+1) (o:=0) (.int .i64 3) (by omega);generalize wr.setCell ⟨w.heap.size+1,0,none⟩ (.int .i64 3)=dB at *;have KX:=U hk;have CX:=U y2;have QX:=U hq;have Kw:=U (show ¬ fF (N:Int) OO RR from fun hh=>px (hh.perm tR.u RD.u).1);clear hk y2 hq
     gi_wp2
     exact ⟨QX.u.keeps,rfl,KX.u,CX.u,Kw.u⟩
    by_cases qd:Ma.bY x=0
    case neg =>
     skip
     gi_upto_region 15 with fail
     refine wpIn_region_list ?_;refine Rg.aH (some 56) rfl rfl (fun _ hh=>by cases hh) (b5 (.slice xa x.length xc) _ rfl rfl) ?_;go_frame;refine Rg.aH (some 57) rfl rfl (fun _ hh=>by cases hh) (g9 Tryz.underlying27) ?_;go_frame;refine Rg.aH (some 58) rfl rfl (fun _ hh=>by cases hh) (g7 (.int .i64 (N:Int)) ⟨(w.heap.size+2),0,none⟩ (af CI.u.c3.c)) ?_;go_frame;refine Rg.aH (some 59) rfl rfl (fun _ hh=>by cases hh) (g8 (.bool false) .neq (h:=aE _ f8)) ?_;go_frame;refine Rg.aH (some 60) rfl rfl (fun _ hh=>by cases hh) (b5 (.bool false) _ rfl rfl) ?_;go_frame;refine Rg.eB (some 61) rfl rfl (fun _ hh=>by cases hh) (b5 (.slice xa x.length xc) _ rfl rfl) ?_;go_frame;refine Rg.Hn (some 62) rfl rfl (fun _ hh=>by cases hh) _ _ (aA 68 _ _ rfl rfl (z1 _ _)) ?_;refine (fJ _ _ wr (XU.u.p K.u)).mono ?_;rintro e1 fj ⟨rfl,hb⟩;refine ⟨_,rfl,?_⟩;go_frame;replace CI:=U (CI.u.p hb);replace KQ:=U (KQ.u.p hb);replace K:=U (Rg.acc K.u hb);clear hb;refine Rg.eB (some 63) rfl rfl (fun _ hh=>by cases hh) (g8 (.bool true) .neq (h:=aE _ (decide_eq_true qd))) ?_;go_frame;refine Rg.aH (some 64) rfl rfl (fun _ hh=>by cases hh) (i7 (.bool true)) ?_;go_frame
     gi_upto_region 16 with fail
     refine wpIn_region_list ?_;refine Rg.iy none rfl rfl (fun _ hh=>by cases hh) (Rg.ak _ _ _ rfl _ rfl _ rfl (dt 3 CI.u.c2.c CI.u.c2.f)) ?_;go_frame;have hk:=K.u.setCell (p:=⟨w.heap.size+1,0,none⟩) (by show w.heap.size<=w.heap.size+1; omega) (.int .i64 3);have y2:=CI.u.c2.set (.int .i64 3);have hq:=KQ.u.set (b:=w.heap.size+1) (o:=0) (.int .i64 3) (by omega);generalize fj.setCell ⟨w.heap.size+1,0,none⟩ (.int .i64 3)=dB at *;have KX:=U hk;have CX:=U y2;have QX:=U hq;have Kw:=U (show ¬ fF (N:Int) OO RR from fun hh=>qd (hh.perm tR.u RD.u).2);clear hk y2 hq
     gi_wp2
     exact ⟨QX.u.keeps,rfl,KX.u,CX.u,Kw.u⟩
    gi_upto_region 15 with fail
    refine wpIn_region_list ?_;refine Rg.aH (some 56) rfl rfl (fun _ hh=>by cases hh) (b5 (.slice xa x.length xc) _ rfl rfl) ?_;go_frame;refine Rg.aH (some 57) rfl rfl (fun _ hh=>by cases hh) (g9 Tryz.underlying27) ?_;go_frame;refine Rg.aH (some 58) rfl rfl (fun _ hh=>by cases hh) (g7 (.int .i64 (N:Int)) ⟨(w.heap.size+2),0,none⟩ (af CI.u.c3.c)) ?_;go_frame;refine Rg.aH (some 59) rfl rfl (fun _ hh=>by cases hh) (g8 (.bool false) .neq (h:=aE _ f8)) ?_;go_frame;refine Rg.aH (some 60) rfl rfl (fun _ hh=>by cases hh) (b5 (.bool false) _ rfl rfl) ?_;go_frame;refine Rg.eB (some 61) rfl rfl (fun _ hh=>by cases hh) (b5 (.slice xa x.length xc) _ rfl rfl) ?_;go_frame;refine Rg.Hn (some 62) rfl rfl (fun _ hh=>by cases hh) _ _ (aA 68 _ _ rfl rfl (z1 _ _)) ?_;refine (fJ _ _ wr (XU.u.p K.u)).mono ?_;rintro e1 fj ⟨rfl,hb⟩;refine ⟨_,rfl,?_⟩;go_frame;replace CI:=U (CI.u.p hb);replace KQ:=U (KQ.u.p hb);replace K:=U (Rg.acc K.u hb);clear hb;refine Rg.eB (some 63) rfl rfl (fun _ hh=>by cases hh) (g8 (.bool false) .neq (h:=aE _ (decide_eq_false (fun e=>e qd)))) ?_;go_frame;refine Rg.aH (some 64) rfl rfl (fun _ hh=>by cases hh) (i7 (.bool false)) ?_;go_frame;obtain ⟨q,Yi,Qf⟩:=Ma.mf (Ma.jl qd).2.2;have HGQ:=U (show Cm.Gd N q from ⟨Qf,by have:=congrArg List.length Yi; rw [Ma.aB] at this; omega⟩);have HQX:=U Yi;have OC:=U (show FP (fun k=>k<w.heap.size) w (.slice xa x.length xc) q from FP.zx (show Rg.NP w _ q by unfold Rg.NP; rw [<- HQX.u]; exact XU.u));clear Yi Qf qd
    gi_upto_region 17 with fail
    refine wpIn_region_list ?_;refine Rg.aH (some 65) rfl rfl (fun _ hh=>by cases hh) (g7 (.slice va gs'.length vc) ⟨(w.heap.size+3),0,none⟩ (Rg.ae _ _ Tryz.underlying41 CI.u.c4.c)) ?_;go_frame;refine Rg.aH (some 66) rfl rfl (fun _ hh=>by cases hh) (b5 (.slice xa x.length xc) _ rfl rfl) ?_;go_frame;refine Rg.aH (some 67) rfl rfl (fun _ hh=>by cases hh) (Rg.aF _ _ _ rfl (.slice xa x.length xc) rfl (cn fj _ ⟨_,_,_,rfl⟩)) ?_;go_frame;obtain ⟨a9,c9,X9,r1,r2,r3,r4⟩:=CI.u.row.QR (fun k hk=>by omega) (OC.u.p K.u) ⟨_,_,_,rfl⟩ Ky.u 41;have qU:=r3 (Nat.le_refl _) (Below.refl _ _);refine Rg.aH (some 68) rfl rfl (fun _ hh=>by cases hh) (Rg.aT _ _ _ rfl rfl rfl r1) ?_;go_frame;have Yj:=CI.u.c4.upto qU (by omega);refine Rg.iy none rfl rfl (fun _ hh=>by cases hh) (Rg.ak _ _ _ rfl _ rfl _ rfl (Rg.bz _ fk Yj.c Yj.f)) ?_;go_frame;have H0:=CI.u.store qU r2;have CD:KK B w.heap.size W (X9.setCell ⟨w.heap.size+3,0,none⟩ (.slice a9 (gs'.length+1) c9)):=(KQ.u.row r4 CI.u.row (by omega)).set _ (by omega);generalize X9.setCell ⟨w.heap.size+3,0,none⟩ (.slice a9 (gs'.length+1) c9)=RE at *;have CI2:=U H0;have Yk:=U CD
    have Kz:=U (show (gs'++[q]).map Ma.ah=gs.map Ma.ah++r.take (j+1) by
     rw [List.map_append,nO.u,List.take_succ_eq_append_getElem pC.u,show r[j]=x from hx.u,HQX.u,List.append_assoc]; rfl)
    have aaS:=U (show ∀ g∈gs'++[q],Cm.Gd N g from fun g hg=>by
     rcases List.mem_append.1 hg with hg | hg
     ·exact BC.u g hg
     ·rw [List.mem_singleton] at hg; rw [hg]; exact HGQ.u)
    have Ef:=U (show (gs'++[q]).length<=gs.length+(j+1) by rw [List.length_append]; have:=tz.u; simp; omega);clear H0 CD r1 r2 r3 r4 qU Yj
    gi_wp2
    go_roundw
    case rel=>exact ⟨j+1,_,_,by go_num,pC.u,CI2,Yk,Kz,aaS,Ef⟩
    case measure=>simp [intOf]; have:=pC.u; omega
   ·obtain rfl:j=r.length:=by omega
    have yG:¬ (r.length:Int)<(r.length:Int):=by omega
    have aaT:=U (show gs'.map Ma.ah=(pre++[⟨X,tR.u⟩]:List (Fin RR.length)).flatMap (rowOf RR) by
     have e:=nO.u;rw [List.take_length] at e;rw [e,Ee.u,List.flatMap_append];simp only [List.flatMap_cons,List.flatMap_nil,List.append_nil]
     exact congrArg (pre.flatMap (rowOf RR)++·) ((dO tR.u).trans hr.u).symm)
    have aaU:=U (show gs'.length<=64*(pre.length+1) by have:=tz.u; have:=aaR.u; omega)
    gi_wp2
    exact ⟨KQ.u.keeps,KQ.u.cU,_,_,CI.u,aaT.u,BC.u,by rw [List.length_append]; exact aaU.u⟩
 case stop =>
  rintro D c pre W hD ⟨rfl,h1,h2,h3⟩ hd;go_wp2;exact kK (ds:=[D]) h1 h2 (.inr ⟨by omega,.inr ⟨h3,rfl⟩⟩) rfl (by simp) (fun D' iR=>by simp at iR; subst iR; exact ⟨hd,by have:=jS.u; omega⟩)
 case done =>
  rintro D Wd hD ⟨v,gs,qT,vg,DP,kE⟩ hd;clear FB Aa CI K;rw [Ht] at vg;have HD:=U (show w.heap.size<=D by have:=jS.u; omega);have DF:=U hd;have CI:=U qT;have K:=U qT.cU;have Ee:=U vg;have BC:=U DP;have BB:=U (show gs.length<=1000000 by rw [zW (Nat.le_refl _)] at kE; have:=sy.u; omega);obtain ⟨va,vc,qf⟩:=qT.row.shape;subst qf
  have GR:=U (show Rg.Rows Wd (.slice va gs.length vc) (gs.map Ma.ah) from by
   obtain ⟨us,q1,q2⟩:=qT.row.own
   exact Rg.Rows.cV q1 (by have:=BB.u; omega) q2.1 (fun i a b=>(q2.2 i a b).ints))
  have HH:=U (show bl Wd (.slice oa OO.length oc) (.slice ra RR.length rc) OO RR from bl.upto H.u qT.cU);clear qT vg DP kE hd;go_upto_region 19 with fail;refine Rg.Da ?_;have aj:BE Wd Wd.drew:=(Below.refl _ _).drew;replace CI:=U (CI.u.p aj);replace GR:=U (GR.u.p aj);replace HH:=U (HH.u.p aj);replace DF:=U (DF.u.p aj);replace K:=U (Rg.acc K.u aj);clear aj;refine Rg.Any.begin (S:=Rg.aK 6 (fun _=>True) (fun W=>Below Wd.drew.heap.size Wd.drew W)) mix ?_;generalize Wd.drew=fB at *;have hS:∀ (l:Array Bool) W,BE fB W->Rg.aK 6 (fun _=>True) (fun W=>BE fB W) l W:=fun l W h=>⟨.inr trivial,h⟩;have hI:BE fB fB:=Below.refl _ _;refine d7 0 6 ((.agg #[.int .i64 (N:Int),.slice oa OO.length oc,.slice ra RR.length rc])) 70 rfl rfl (j2 ⟨w.heap.size,0,none⟩ (fun W hW=>aC ((Below.cell (p:=⟨w.heap.size,0,none⟩) hW CI.u.a0.lt).trans CI.u.a0.cell) ((Below.cell (p:=⟨w.heap.size,1,none⟩) hW CI.u.a1.lt).trans CI.u.a1.cell) ((Below.cell (p:=⟨w.heap.size,2,none⟩) hW CI.u.a2.lt).trans CI.u.a2.cell))) (hS _ _ hI)<|d7 1 6 (.int .i64 (N:Int)) 71 rfl rfl (j2 ⟨(w.heap.size+2),0,none⟩ (fun W hW=>af ((Below.cell (p:=⟨(w.heap.size+2),0,none⟩) hW CI.u.c3.lt).trans CI.u.c3.c))) (hS _ _ hI)<|d7 2 6 (.slice va gs.length vc) 72 rfl rfl (j2 ⟨(w.heap.size+3),0,none⟩ (fun W hW=>Rg.ae _ _ Tryz.underlying41 ((Below.cell (p:=⟨(w.heap.size+3),0,none⟩) hW CI.u.c4.lt).trans CI.u.c4.c))) (hS _ _ hI) ?_;go_frame;refine Rg.Any.one (i:=3) (by kernel_rfl) (Rg.Any.ask (some 73) rfl rfl rfl _ _ (ax 69 _ _ _ rfl rfl rfl (Rx _ _)) ?_);refine (GO eI z8 GR.u BC.u BB.u).mono ?_;rintro e1 tE ⟨tb,L,F1,T1,V1,rfl,zw,xP,xQ,RG,hb⟩;have HB:=U RG;have br:=Rg.acc hI hb;clear hb hI;refine ⟨_,rfl,(hS _ _ br),?_⟩;go_frame;have HT:=U zw;have C0:=U xP;have C1:=U xQ;clear zw xP xQ RG;refine Rg.Any.one (i:=4) (by kernel_rfl) (Rg.Any.ask (some 74) rfl rfl rfl _ _ (aA 70 _ _ rfl rfl (Ry _ _)) ?_);refine (zG eI z8 HT.u C0.u C1.u (Cm.Gr.dE BC.u) (HB.u.Mt (by omega) BC.u) (fun j hj=>(HB.u.full j hj).1)).mono ?_;rintro e1 w63 ⟨Ki,rv2,O2,R2,rfl,hO,hR,Hh,hb⟩;have dc:=U Hh;have Bz:=bl.mk hO.rows hR.rows;clear hO hR Hh;have bE:=Rg.acc br hb;have cM:=hb;clear hb br;refine ⟨_,rfl,(hS _ _ bE),?_⟩
  go_frame;have HF:=U Bz;clear Bz;obtain ⟨bS,Yl⟩:∃ b,Hid (decide (((N:Nat):Int)=((N:Nat):Int)/\OO=O2.map Ma.ah/\RR=R2.map (List.map Ma.ah))=b):=⟨_,U rfl⟩;refine Rg.Any.one (i:=5) (by kernel_rfl) (Rg.Any.ask (some 75) rfl rfl rfl _ _ (ax 96 _ _ _ rfl rfl rfl (Yf _ _)) ?_);refine (Oz (HH.u.p bE) HF.u Yl).mono ?_;rintro e1 Ym ⟨rfl,hb⟩;have gR:=Rg.acc cM hb;have cG:=Rg.acc bE hb;have fP:=hb;clear hb cM bE;refine ⟨_,rfl,(hS _ _ cG),?_⟩;go_frame;refine j1 6 76 rfl rfl (bw _ _ bS rfl rfl) (hS _ _ cG) ?_;go_frame;refine Rg.Any.done (by kernel_rfl) ?_ _;refine Rg.oL ?_;replace CI:=U (CI.u.p cG);replace GR:=U (GR.u.p cG);replace HH:=U (HH.u.p cG);replace DF:=U (DF.u.p cG);replace HT:=U (HT.u.p gR);replace C0:=U (C0.u.p gR);replace C1:=U (C1.u.p gR);replace HF:=U (HF.u.p fP);replace K:=U (Rg.acc K.u cG);clear hS gR cG fP;have Yn:=U (fF.same (OO:=OO) (RR:=RR) eI z8 BC.u Ee.u.symm dc.u)
  cases bS with
  | false =>
   have C2:=U CI.u.c2;go_upto_region 20 with fail;refine c6<|Rg.aG none rfl rfl (Rg.ak _ _ _ rfl _ rfl _ rfl (dt 3 C2.u.c C2.u.f)) ?_;go_frame;have hk:=K.u.setCell (p:=⟨w.heap.size+1,0,none⟩) (by show w.heap.size<=w.heap.size+1; omega) (.int .i64 3);have y2:=C2.u.set (.int .i64 3);have hdd:=RF.fq.setCell DF.u ⟨w.heap.size+1,0,none⟩ (.int .i64 3);generalize Ym.setCell ⟨w.heap.size+1,0,none⟩ (.int .i64 3)=dB at *;have KX:=U hk;have CX:=U y2;have DX:=U hdd;have xe:=U (show pE (N:Int) OO RR 3 from .inr ⟨by omega,.inr ⟨fun hh=>(of_decide_eq_false Yl.u) ⟨rfl,Yn.u.1 hh⟩,rfl⟩⟩);clear hk y2 hdd;go_wp2;exact kK (ds:=[D]) KX.u CX.u xe.u rfl (by simp) (fun D' iR=>by simp at iR; subst iR; exact ⟨DX.u,HD.u⟩)
  | true =>
   have C2:=U CI.u.c2;go_upto_region 21 with fail;refine c6<|Rg.aG none rfl rfl (Rg.ak _ _ _ rfl _ rfl _ rfl (dt 0 C2.u.c C2.u.f)) ?_;go_frame;have hk:=K.u.setCell (p:=⟨w.heap.size+1,0,none⟩) (by show w.heap.size<=w.heap.size+1; omega) (.int .i64 0);have y2:=C2.u.set (.int .i64 0);have hdd:=RF.fq.setCell DF.u ⟨w.heap.size+1,0,none⟩ (.int .i64 0);generalize Ym.setCell ⟨w.heap.size+1,0,none⟩ (.int .i64 0)=dB at *;have KX:=U hk;have CX:=U y2;have DX:=U hdd;have xe:=U (show pE (N:Int) OO RR 0 from pE.of (Yn.u.2 (of_decide_eq_true Yl.u).2));clear hk y2 hdd;go_wp2;exact kK (ds:=[D]) KX.u CX.u xe.u rfl (by simp) (fun D' iR=>by simp at iR; subst iR; exact ⟨DX.u,HD.u⟩)
end
section
open Go.RowKit
open Go.Proofs.Ob
attribute [local irreducible] Go.Calls Go.wpList
theorem Yo {w:World} {u v r:Int} (t:TypeId) (hv:v≠0) (h:u.tmod v=r) (_hb:-9223372036854775808<=r/\r<=9223372036854775807):(binOp .rem t (.int .i64 u) (.int .i64 v)).run Tryz.prog w=.ok (.int .i64 r) w:=by
 simp [binOp,Op.intDiv,hv,h]

def eS:List (List Int)->Nat
 | []=>1
 | l :: r=>l.length*eS r
theorem qV (a:List (List Int)) (l:List Int):eS (a++[l])=eS a*l.length:=by
 induction a with
 | nil=>simp [eS]
 | cons x a ih=>simp only [List.cons_append,eS,ih,Nat.mul_assoc]
end
section
open Go.Proofs.Cm (Gr Gd ar cz mj St Tr Sd Fx ap)
structure TE where
 i:Nat
 p:Nat
 u:List Nat
 w:List Nat
def Yp (n:Nat) (u:List Nat):Bool:=u.all (fun x=>decide (x<n)) && decide u.Nodup && u.length == n
theorem Vb {u:List Nat} (h:Yp n u=true):Gd n u:=by
 unfold Yp at h;simp only [Bool.and_eq_true,List.all_eq_true,decide_eq_true_eq,beq_iff_eq] at h;obtain ⟨⟨h1,h2⟩,h3⟩:=h;exact ⟨⟨fun x hx=>by rw [h3]; exact h1 x hx,h2⟩,h3⟩
def evalW (n:Nat) (gs:List (List Nat)) (w:List Nat):List Nat:=w.foldl (fun x k=>Ma.aq x (gs.getD k (Ma.bs n))) (Ma.bs n)
theorem OD (w:List Nat):Gr n (·∈gs) (evalW n gs w):=by
 unfold evalW
 have key:∀ (w:List Nat) (x:List Nat),Gr n (·∈gs) x->Gr n (·∈gs) (w.foldl (fun x k=>Ma.aq x (gs.getD k (Ma.bs n))) x):=by
  intro w
  induction w with
  | nil=>exact fun x h=>h
  | cons k w ih =>
   intro x h;rw [List.foldl_cons];refine ih _ (.mul _ _ h ?_)
   by_cases hk:k<gs.length
   ·rw [List.getD_eq_getElem?_getD,List.getElem?_eq_getElem hk]
    exact .gen _ (List.getElem_mem hk)
   ·rw [List.getD_eq_getElem?_getD,List.getElem?_eq_none (by omega)]
    exact .one
 exact key w _ .one
end
section
open Go.RowKit
open Go.Proofs.Ob
attribute [local irreducible] Go.Calls Go.wpList
theorem fI.low {w:World} (h:Rg.fI B w v ll) (hb:BE w w'):Rg.fI B w' v ll:=h.p hb
def bg (d:Int) (ll:List (List Int)):Bool:=lg ll || (decide (12<d) && decide (d<=64))
end
section
open Go.RowKit
open Go.Proofs.Ob
open Go.Proofs.Cm (Lv bx cw)
attribute [local irreducible] Go.Calls Go.wpList
theorem OE (gv:Value) (d:Int) (ll:List (List Int)) (w:World) (h:Rg.Rows w gv ll) :
  Calls Tryz.prog 42 #[.int .i64 d,gv] w fun e w'=>∃ cv,e=.returned (.tuple #[cv,.int .i64 (bK d ll)])/\c_ w.heap.size w' d ll cv (bK d ll)/\BE w w':=by
 obtain ⟨ga,gc,rfl,xX,MF,_,jr⟩:=h.shape;have G0:=U h;have qF:=U jr;have K:=U (bi w);clear h jr xX
 go_enter Tryz.func42,Tryz.ntmps42
 go_upto_region 0 with fail;refine c6 ?_;have bV:=cj.new w (.int .i64 0) (.slice none 0 0) (.slice none 0 0);refine k8 (bj rfl) ?_;go_frame;have hb:=be w (.cells #[.int .i64 0,.slice none 0 0,.slice none 0 0] 25);generalize w.alloc (.cells #[.int .i64 0,.slice none 0 0,.slice none 0 0] 25)=w1 at *;replace G0:=U (G0.u.p hb);replace K:=U (Rg.acc K.u hb);clear hb;have FT:=U bV;refine j7 rfl ?_;go_frame;clear bV;have K1:=U (bi w1);have KB:=K;clear K;have tG:=FT.u.lt
 by_cases X7:d<1
 ·have HC:=U (show bK d ll=2 by unfold bK; rw [if_neg (by omega)])
  go_upto_region 1 with fail;refine c6<|j7 rfl<|k8 (g8 (.bool true) .lss (h:=aI _ f7))<|k7 rfl<|f9 12 ?_;go_frame;refine f9 13<|k8 (i8 (.bool true)) ?_;go_frame;have fD:=U (FT.u.p K1.u);have KX:=U (KB.u.trans (K1.u.mono KB.u.size));go_upto_region 2 with fail;refine c6<|k8 (bF rfl)<|Rg.aG none rfl rfl (Rg.ak _ _ _ rfl _ rfl _ rfl (aJ _ _ _ _ _ _ _ fD.u))<|j7 rfl ?_;go_frame;have fZ:=gN fD.u KX.u (Nat.le_refl _);generalize ((w1.setCell ⟨w.heap.size,0,none⟩ (.int .i64 0)).setCell ⟨w.heap.size,1,none⟩ (.slice none 0 0)).setCell ⟨w.heap.size,2,none⟩ (.slice none 0 0)=dB at *
  have jE:=U (show ∃ cv,Ending.returned (.tuple #[kH,.int .i64 (2)])=.returned (.tuple #[cv,.int .i64 (bK d ll)])/\c_ w.heap.size dB d ll cv (bK d ll)/\BE w dB from
   ⟨_,by rw [HC.u],.inl ⟨by rw [HC.u]; decide,rfl⟩,fZ.2⟩)
  have my:=U fZ.1;clear fZ;go_wp2;exact bodyPost_ret (aO (p:=4) (u:=5) rfl _ rfl rfl my.u) rfl jE.u
 by_cases Ko:64<d
 ·have HC:=U (show bK d ll=2 by unfold bK; rw [if_neg (by omega)])
  go_upto_region 1 with fail;refine c6<|j7 rfl<|k8 (g8 (.bool false) .lss (h:=aI _ f8))<|k7 rfl<|j7 rfl ?_;go_frame;refine k8 (g8 (.bool true) .gtr (h:=bA _ f7))<|k8 (i7 (.bool true)) ?_;go_frame;have fD:=U (FT.u.p K1.u);have KX:=U (KB.u.trans (K1.u.mono KB.u.size));go_upto_region 2 with fail;refine c6<|k8 (bF rfl)<|Rg.aG none rfl rfl (Rg.ak _ _ _ rfl _ rfl _ rfl (aJ _ _ _ _ _ _ _ fD.u))<|j7 rfl ?_;go_frame;have fZ:=gN fD.u KX.u (Nat.le_refl _);generalize ((w1.setCell ⟨w.heap.size,0,none⟩ (.int .i64 0)).setCell ⟨w.heap.size,1,none⟩ (.slice none 0 0)).setCell ⟨w.heap.size,2,none⟩ (.slice none 0 0)=dB at *
  have jE:=U (show ∃ cv,Ending.returned (.tuple #[kH,.int .i64 (2)])=.returned (.tuple #[cv,.int .i64 (bK d ll)])/\c_ w.heap.size dB d ll cv (bK d ll)/\BE w dB from
   ⟨_,by rw [HC.u],.inl ⟨by rw [HC.u]; decide,rfl⟩,fZ.2⟩)
  have my:=U fZ.1;clear fZ;go_wp2;exact bodyPost_ret (aO (p:=4) (u:=5) rfl _ rfl rfl my.u) rfl jE.u
 have qP:1<=d/\d<=64:=by omega
 go_upto_region 1 with fail;refine c6<|j7 rfl<|k8 (g8 (.bool false) .lss (h:=aI _ f8))<|k7 rfl<|j7 rfl ?_;go_frame;refine k8 (g8 (.bool false) .gtr (h:=bA _ f8))<|k8 (i7 (.bool false)) ?_;go_frame
 by_cases hg1:4096<ll.length
 ·have HC:=U (show bK d ll=4 by unfold bK; rw [if_pos qP,if_neg (by omega)])
  go_upto_region 3 with fail;refine c6<|j8 rfl<|k8 (g9 Tryz.underlying41)<|k8 (g8 (.bool true) .gtr (h:=bA _ f7)) ?_;go_frame;have fD:=U (FT.u.p K1.u);have KX:=U (KB.u.trans (K1.u.mono KB.u.size));go_upto_region 4 with fail;refine c6<|k8 (bF rfl)<|Rg.aG none rfl rfl (Rg.ak _ _ _ rfl _ rfl _ rfl (aJ _ _ _ _ _ _ _ fD.u))<|j7 rfl ?_;go_frame;have fZ:=gN fD.u KX.u (Nat.le_refl _);generalize ((w1.setCell ⟨w.heap.size,0,none⟩ (.int .i64 0)).setCell ⟨w.heap.size,1,none⟩ (.slice none 0 0)).setCell ⟨w.heap.size,2,none⟩ (.slice none 0 0)=dB at *
  have jE:=U (show ∃ cv,Ending.returned (.tuple #[kH,.int .i64 (4)])=.returned (.tuple #[cv,.int .i64 (bK d ll)])/\c_ w.heap.size dB d ll cv (bK d ll)/\BE w dB from
   ⟨_,by rw [HC.u],.inl ⟨by rw [HC.u]; decide,rfl⟩,fZ.2⟩)
  have my:=U fZ.1;clear fZ;go_wp2;exact bodyPost_ret (aO (p:=4) (u:=5) rfl _ rfl rfl my.u) rfl jE.u
 have mz:=U (show bK d ll=Ma.jF d ll by unfold bK; rw [if_pos qP,if_pos (by omega)]);have nO:=U (show Ma.jF d (ll.drop 0)=Ma.jF d ll by rw [List.drop_zero]);go_upto_region 3 with fail;refine c6<|j8 rfl<|k8 (g9 Tryz.underlying41)<|k8 (g8 (.bool false) .gtr (h:=bA _ f8)) ?_;go_frame;go_wp2
 go_loopw [22] (fun kv wr=>∃ k:Nat,kv=.int .i64 k/\k<=ll.length/\Hid (BE w1 wr)/\Hid (Ma.jF d (ll.drop k)=Ma.jF d ll)) (fun kv _=>ll.length - (intOf kv).toNat)
 case atStart=>exact ⟨0,rfl,Nat.zero_le _,K1,nO⟩
 case round =>
  clear K1 nO;obtain ⟨k,rfl,hk,K1,nO⟩:=hrel
  by_cases b_:k<ll.length
  ·have gY:(k:Int)<(ll.length:Int):=by omega
   have jr:=qF.u;obtain ⟨gb,go,rfl,tM,Gs⟩:=jr (by omega);obtain ⟨u,oC,vk⟩:=Gs k b_;obtain ⟨x,hx⟩:∃ x,Hid (ll[k]=x):=⟨_,U rfl⟩;rw [hx.u] at vk;have CU:=U (CL.mk ((KB.u.cell (p:=⟨gb,go+k,none⟩) tM).trans oC) (Nat.lt_of_lt_of_le tM KB.u.size));have XU:=U (Rg.Ints.p vk KB.u);obtain ⟨xa,xc,rfl,_⟩:=vk.shape;have ba:=U b_;have qe:=XU.u.len;have X_:=U (show x.length<=1000000000 by obtain ⟨n,a,c,e,_,e2⟩:=qe; omega);clear jr Gs oC vk qe tM;go_upto_region 7 with fail;refine c6<|k8 (ag aM _ _ rfl gb (go) (ll.length) gc (k) rfl rfl ba.u)<|k8 (g7 (.slice xa x.length xc) ⟨gb,go+k,none⟩ (Rg.ae _ _ Tryz.underlying27 ((Below.cell (p:=⟨gb,go+k,none⟩) K1.u CU.u.lt).trans CU.u.cell)))<|j8 rfl ?_;go_frame;go_upto_region 8 with fail;refine c6<|j8 rfl ?_;go_frame;refine f4 27 (aA 68 _ _ rfl rfl (z1 _ _)) ?_;refine (fJ _ _ wr (XU.u.p K1.u)).mono ?_;rintro e1 gA ⟨rfl,hb⟩;refine ⟨_,rfl,?_⟩;go_frame;replace K1:=U (Rg.acc K1.u hb);clear hb;refine j7 rfl ?_;go_frame
   by_cases qd:Ma.bY x=0
   ·by_cases Rh:(x.length:Int)=d
    ·skip
     go_upto_region 9 with fail;refine c6<|j7 rfl<|k8 (g8 (.bool false) .neq (h:=aE _ f8)) ?_;go_frame;go_upto_region 11 with fail;refine c6<|j8 rfl<|k8 (g9 Tryz.underlying27)<|j7 rfl<|k8 (g8 (.bool false) .neq (h:=aE _ f8)) ?_;go_frame;have Ya:=U (show Ma.jF d (ll.drop (k+1))=Ma.jF d ll by rw [<- Ma.Cj ba.u (by rw [hx.u]; exact qd) (by rw [hx.u]; exact Rh)]; exact nO.u);go_wp2;go_roundw
     case rel=>exact ⟨k+1,by go_num,ba.u,K1,Ya⟩
     case measure=>simp [intOf]; have:=ba.u; omega
    ·have HC:=U (show bK d ll=10 by rw [mz.u,<- nO.u]; exact Ma.Fl ba.u (by rw [hx.u]; exact qd) (by rw [hx.u]; exact Rh))
     go_upto_region 9 with fail;refine c6<|j7 rfl<|k8 (g8 (.bool false) .neq (h:=aE _ f8)) ?_;go_frame;go_upto_region 11 with fail;refine c6<|j8 rfl<|k8 (g9 Tryz.underlying27)<|j7 rfl<|k8 (g8 (.bool true) .neq (h:=aE _ f7)) ?_;go_frame;have fD:=U (FT.u.p K1.u);have KX:=U (KB.u.trans (K1.u.mono KB.u.size));go_upto_region 12 with fail;refine c6<|k8 (bF rfl)<|Rg.aG none rfl rfl (Rg.ak _ _ _ rfl _ rfl _ rfl (aJ _ _ _ _ _ _ _ fD.u))<|j7 rfl ?_;go_frame;have fZ:=gN fD.u KX.u (Nat.le_refl _);generalize ((gA.setCell ⟨w.heap.size,0,none⟩ (.int .i64 0)).setCell ⟨w.heap.size,1,none⟩ (.slice none 0 0)).setCell ⟨w.heap.size,2,none⟩ (.slice none 0 0)=dB at *
     have jE:=U (show ∃ cv,Ending.returned (.tuple #[kH,.int .i64 (10)])=.returned (.tuple #[cv,.int .i64 (bK d ll)])/\c_ w.heap.size dB d ll cv (bK d ll)/\BE w dB from
      ⟨_,by rw [HC.u],.inl ⟨by rw [HC.u]; decide,rfl⟩,fZ.2⟩)
     have my:=U fZ.1;clear fZ;go_wp2;exact bodyPost_ret (aO (p:=4) (u:=5) rfl _ rfl rfl my.u) rfl jE.u
   ·have HC:=U (show bK d ll=Ma.bY x by rw [mz.u,<- nO.u,Ma.Fj ba.u (by rw [hx.u]; exact qd),hx.u])
    go_upto_region 9 with fail;refine c6<|j7 rfl<|k8 (g8 (.bool true) .neq (h:=aE _ f7)) ?_;go_frame;have fD:=U (FT.u.p K1.u);have KX:=U (KB.u.trans (K1.u.mono KB.u.size));go_upto_region 10 with fail;refine c6<|k8 (bF rfl)<|j7 rfl<|Rg.aG none rfl rfl (Rg.ak _ _ _ rfl _ rfl _ rfl (aJ _ _ _ _ _ _ _ fD.u))<|j7 rfl ?_;go_frame;have fZ:=gN fD.u KX.u (Nat.le_refl _);generalize ((gA.setCell ⟨w.heap.size,0,none⟩ (.int .i64 0)).setCell ⟨w.heap.size,1,none⟩ (.slice none 0 0)).setCell ⟨w.heap.size,2,none⟩ (.slice none 0 0)=dB at *
    have jE:=U (show ∃ cv,Ending.returned (.tuple #[kH,.int .i64 (Ma.bY x)])=.returned (.tuple #[cv,.int .i64 (bK d ll)])/\c_ w.heap.size dB d ll cv (bK d ll)/\BE w dB from
     ⟨_,by rw [HC.u],.inl ⟨by rw [HC.u]; exact qd,rfl⟩,fZ.2⟩)
    have my:=U fZ.1;clear fZ;go_wp2;exact bodyPost_ret (aO (p:=4) (u:=5) rfl _ rfl rfl my.u) rfl jE.u
  ·obtain rfl:k=ll.length:=by omega
   have gY:¬ (ll.length:Int)<(ll.length:Int):=by omega
   have hz:=nO.u;rw [Ma.Fm (Nat.le_refl _)] at hz;obtain ⟨n,gs,UM,ss,eH,aU,aZ,kE⟩:=QN qP.1 qP.2 hz.symm;have tK:=U ss;have BB:=U kE;have je:=U eH;have HC:=U (show bK d ll=0 by rw [mz.u]; exact hz.symm);subst UM;have fD:=U (FT.u.p K1.u);have KX:=U (KB.u.trans (K1.u.mono KB.u.size));have GR:=U (Rg.Rows.p G0.u K1.u);clear ss kE eH hz;go_upto_region 14 with fail;refine c6<|j7 rfl<|j8 rfl ?_;go_frame;have fO:=U fD.u.lt;refine f4 40 (ax 69 _ _ _ rfl rfl rfl (Rx _ _)) ?_;refine (GO aU aZ (by have:=GR.u; rw [show gs.map Ma.ah=ll from tK.u.symm]; exact this) je.u (by have:=BB.u; omega)).mono ?_;rintro e1 fB ⟨tb,L,F1,T1,V1,rfl,zw,xP,xQ,RG,hb⟩;have HB:=U RG;have vn:=U (Nat.lt_of_lt_of_le fO.u hb.size);refine ⟨_,rfl,?_⟩;go_frame;replace fD:=U (fD.u.p hb);replace GR:=U (GR.u.p hb);replace KX:=U (Rg.acc KX.u hb);clear hb;have HT:=U zw;have C0:=U xP;have C1:=U xQ;clear zw xP xQ RG;refine f4 41 (aA 70 _ _ rfl rfl (Ry _ _)) ?_;refine (zG aU aZ HT.u C0.u C1.u (Cm.Gr.dE je.u) (HB.u.Mt (by omega) je.u) (fun j hj=>(HB.u.full j hj).1)).mono ?_;rintro e1 tE ⟨ov,rv,O,R,rfl,hO,hR,Hh,hb⟩;obtain ⟨oa,oc,rfl,_⟩:=hO.rows.shape;obtain ⟨ra,rc,rfl⟩:=hR.rows.shape;have HO:=U hO;have HR:=U hR;have dc:=U Hh;clear hO hR Hh;refine ⟨_,rfl,?_⟩;go_frame;replace fD:=U (fD.u.p hb);replace GR:=U (GR.u.p hb);replace HT:=U (HT.u.p hb);replace C0:=U (C0.u.p hb);replace C1:=U (C1.u.p hb);replace KX:=U (Rg.acc KX.u hb);clear hb;refine Rg.aG none rfl rfl (Rg.ak _ _ _ rfl _ rfl _ rfl (aJ _ _ _ _ _ _ _ fD.u))<|j7 rfl ?_;go_frame
   have zK:=fD.u.set (.int .i64 (n:Int)) (.slice oa (O.map Ma.ah).length oc) (.slice ra (R.map (List.map Ma.ah)).length rc);have wV:=Rg.Kp.trans (Rg.Kp.trans (Rg.Kp.aR (M:=fun z=>z=w.heap.size) (w:=tE) (a:=⟨w.heap.size,0,none⟩) (v:=.int .i64 (n:Int)) rfl) (Rg.Kp.aR (M:=fun z=>z=w.heap.size) (a:=⟨w.heap.size,1,none⟩) (v:=(.slice oa (O.map Ma.ah).length oc)) rfl) (fun _ _ e=>e)) (Rg.Kp.aR (M:=fun z=>z=w.heap.size) (a:=⟨w.heap.size,2,none⟩) (v:=(.slice ra (R.map (List.map Ma.ah)).length rc)) rfl) (fun _ _ e=>e);have hro:=aL.mono (F':=fun z=>w.heap.size<=z) (aL.kp HO.u wV (fun z g e=>by have:=vn.u; omega)) (fun z hz=>by have:=vn.u; omega);have Ro:=aV.mono (F':=fun z=>w.heap.size<=z) (HR.u.kp wV (fun z g e=>by have:=vn.u; omega)) (fun z hz=>by have:=vn.u; omega);have py:=((KX.u.setCell (p:=⟨w.heap.size,0,none⟩) (Nat.le_refl _) (.int .i64 (n:Int))).setCell (p:=⟨w.heap.size,1,none⟩) (Nat.le_refl _) (.slice oa (O.map Ma.ah).length oc)).setCell (p:=⟨w.heap.size,2,none⟩) (Nat.le_refl _) (.slice ra (R.map (List.map Ma.ah)).length rc);generalize ((tE.setCell ⟨w.heap.size,0,none⟩ (.int .i64 (n:Int))).setCell ⟨w.heap.size,1,none⟩ (.slice oa (O.map Ma.ah).length oc)).setCell ⟨w.heap.size,2,none⟩ (.slice ra (R.map (List.map Ma.ah)).length rc)=dB at *;have my:=U zK
   have jE:=U (show ∃ cv,Ending.returned (.tuple #[.agg #[.int .i64 ((n:Nat):Int),(.slice oa (O.map Ma.ah).length oc),(.slice ra (R.map (List.map Ma.ah)).length rc)],.int .i64 0])=.returned (.tuple #[cv,.int .i64 (bK ((n:Nat):Int) ll)])/\c_ w.heap.size dB ((n:Nat):Int) ll cv (bK ((n:Nat):Int) ll)/\BE w dB from
    ⟨_,by rw [HC.u],.inr ⟨HC.u,n,gs,rfl,tK.u,aU,aZ,_,_,O,R,rfl,hro,Ro,dc.u⟩,py⟩)
   clear zK wV hro Ro py;go_wp2;exact bodyPost_ret (aO (p:=4) (u:=5) rfl _ rfl rfl my.u) rfl jE.u
end
section
open Go.RowKit
open Go.Proofs.Ob
attribute [local irreducible] Go.Calls Go.wpList
theorem KD {w:World} {a:Option Addr} {c:Nat} {T:List (List Int)} (h:Rg.Rows w (.slice a n c) T) {i:Nat} (hi:i<T.length):∃ b o ua uc,a=some ⟨b,o,none⟩/\b<w.heap.size/\w.cell? ⟨b,o+i,none⟩=some (.slice ua T[i].length uc)/\Rg.Ints w (.slice ua T[i].length uc) T[i]:=by
 obtain ⟨a',c',e,-,-,-,hx⟩:=h.shape;simp only [Value.slice.injEq] at e;obtain ⟨rfl,rfl,rfl⟩:=e;obtain ⟨b,o,e1,e2,e3⟩:=hx (by omega);obtain ⟨u,h1,h2⟩:=e3 i hi;obtain ⟨ua,uc,rfl,-⟩:=h2.shape;exact ⟨b,o,ua,uc,e1,e2,h1,h2⟩
end
end Go.Proofs.YtpedbljnhnoohaaGreat
namespace Go.Proofs.RF
open Go Go.RowKit
section
variable {n L:Nat} {P:Program} {Q:Exit->Act->World->Prop} {md:Region.Mode} {ops:Array Oper}
theorem RH {m:Nat} {row:String} {args:Array Value} {w:World} {R:Value->World->Prop} (h:Rows P row args w R):RowsIn (Fence.wide.inRound L) m P row args w R :=
 fun c cs _=>let ⟨v,w',r,s⟩:=h c cs; ⟨v,w',r,stepsIn_wide.2 s⟩
theorem Yq {o:Oper} {a:Act} {w:World} {K:Act->World->Prop} (hd:∀ c,o.op≠.defer c) (h:o.wp P a w K Q) :
  o.wpIn (Fence.wide.inRound L) n P a w K Q:=by
 refine ⟨fun _ _=>trivial,?_⟩;rw [show (Fence.wide.inRound L).round=some L from rfl,Oper.semAt_some L a.eval o hd];unfold Oper.wp at h;generalize (execOp a.eval o).run P w=r at h
 cases r with
 | ok x w' =>
  cases x with
  | enter f args =>
   have h':Calls P f args w' _:=h;exact ⟨fun h=>by simp [Fence.wide,Fence.inRound] at h,CallsIn.inRound L (callsIn_wide.2 h')⟩
  | row r args=>exact ⟨fun h=>by simp [Fence.wide,Fence.inRound] at h,RH h⟩
  | value v=>exact h
  | skip=>exact h
  | defer d=>exact h
  | _=>exact h.elim
 | halt x w' =>
  cases x with
  | panic v=>exact h
  | _=>exact h.elim
theorem RJ {i:Nat} {K:Act->World->Prop} {a:Act} {w:World} (hQ:∀ a w,¬ Q .outgrown a w) (hd:∀ (j:Nat) o c,ops[j]?=some o->o.op≠.defer c) (h:wpOp P ops Q i K a w) :
  wpOpIn (Fence.wide.inRound L) n P ops Q i K a w:=by
 unfold wpOp at h;unfold wpOpIn
 split
 ·rename_i ho; rw [ho] at h; exact h
 ·rename_i o ho
  rw [ho] at h;simp only at h
  split
  ·rename_i hw
   rw [if_pos hw] at h
   rcases h with h | h
   ·exact Yq (fun c=>hd i o c ho) h
   ·obtain ⟨_,a',w',h'⟩:=h; exact (hQ a' w' h').elim
  ·rename_i hw
   rw [if_neg hw] at h;exact ⟨fun _ _=>trivial,h⟩
theorem Dc (hQ:∀ a w,¬ Q .outgrown a w) (hd:∀ (j:Nat) o c,ops[j]?=some o->o.op≠.defer c):∀ (f:Nat) (listed:Array Bool) (a:Act) (w:World),
  wpAny P md ops Q f listed a w->wpAnyIn (Fence.wide.inRound L) n P md ops Q f listed a w
 | 0,_,_,_,h=>h
 | f+1,_,_,_,h=>⟨h.1,fun i hi=>wpOpIn_mono (fun a' w'=>Dc hQ hd f _ a' w') (RJ hQ hd (h.2 i hi))⟩
def H3 (l:List Oper):Bool:=l.all fun o=>match o.op with | .defer _=>false | _=>true
theorem BD {l:List Oper} (h:H3 l=true) (j:Nat) (o:Oper) (c:Call) (ho:l.toArray[j]?=some o):o.op≠.defer c:=by
 intro e;have h1:=List.all_eq_true.1 h o (by simp at ho; exact List.mem_of_getElem? ho);rw [e] at h1;simp at h1
end
end Go.Proofs.RF
namespace Go.Proofs.Rg
open Go Go.RowKit
theorem H4 {F:Fence} {P:Program} {c:Code} {Q:Exit->Act->World->Prop} {a:Act} {w:World} (h:c.wpIn F n P (Ep Q) a w):c.wpIn F n P Q a w :=
 wpIn_mono h fun e a w hq=>by cases e <;> first | exact hq | exact hq.elim
theorem Any.vw {P:Program} {Q:Exit->Act->World->Prop} {S:Array Bool->World->Prop} {id:Nat} {a:Act} {w:World} {l:List Oper} (hm:P.follows .mixedOrders=true) (hnd:RF.H3 l=true)
  (h:Any P .any l.toArray (Ep Q) S l.toArray.size (Array.replicate l.toArray.size false) a w.drew):(Code.region id l.toArray true).wpIn (Fence.wide.inRound L) n P Q a w :=
 H4 (wpIn_region_any hm (RF.Dc (fun _ _ h=>h) (fun j o c=>RF.BD hnd j o c) _ _ _ _ (Any.plain _ _ _ _ h)))
end Go.Proofs.Rg
namespace Go.Proofs.YtpedbljnhnoohaaGreat
open Go.Proofs
section
open Go.RowKit
open Go.Proofs.Ob
open Go.Shelf
open Go.Proofs.Cm (Tr)
attribute [local go_sem] Oper.semAt_some
attribute [local irreducible] Go.Calls Go.wpList Go.wpListIn
theorem jt {P:Program} {o:Oper} {a:Act} {w:World} (t:TypeId) (x:Operand) (ho:o.op=.box t x) (hx:a.eval x=v) (hv:v.cells=#[v]) :
  (execOp a.eval o).run P w=.ok (.value (.pointer (some ⟨w.heap.size,0,none⟩))) (w.alloc (.cells #[v] t)):=by
 unfold execOp;simp [ho,hx,Instr.box,newVar,newRow,hv,Result.andThen]
end
section
open Go.RowKit
open Go.Proofs.Cm (Tr)
attribute [local irreducible] Go.Calls Go.wpList
def SS (n:Nat) (tr:Tr) (l:List (List Nat)) (a b:Nat):Prop:=(Cm.dn n (Cm.cL n tr) n (Ma.aq (l.getD a []) (l.getD b []))).1=n
end
section
open Go.Proofs.Cm (Tr dg Gr Gd Sd cL dn)
def H5 (n:Nat) (tr:Tr) (x:List Nat):Tr:=lK n tr (dn n (cL n tr) n x)
structure TL (n:Nat) (gs:List Nat->Prop) (tr:Tr) (l:List (List Nat)):Prop where
 ok:dg n gs tr
 sd:∀ x∈l,Sd n (cL n tr) n x
theorem TL.nil (n:Nat) (gs:List Nat->Prop):TL n gs (fun _ _=>none) []:=⟨Cm.dg.QO,fun x hx=>by simp at hx⟩
theorem TL.ins {gs:List Nat->Prop} (hg:∀ s,gs s->Gd n s) {tr:Tr} {l:List (List Nat)} (h:TL n gs tr l) {x:List Nat} (hx:Gr n gs x):TL n gs (H5 n tr x) (l++[x]):=by
 obtain ⟨h1,h2,h3,_⟩:=vd hg h.ok hx;refine ⟨h1,fun y hy=>?_⟩
 rcases List.mem_append.1 hy with hy | hy
 ·exact Sd.mono (fun i p u _=>h2 i p u) (h.sd y hy)
 ·rw [List.mem_singleton] at hy; subst hy; exact h3
def nS (x n:Int):Int:=if x.tmod n<0 then x.tmod n+n else x.tmod n
theorem vy {x n:Int} (h0:0<n):0<=nS x n/\nS x n<n:=by
 have h2:=Int.tmod_lt_of_pos x h0
 have h3:-n<x.tmod n:=by
  have:=Int.lt_tmod_of_pos x h0;omega
 unfold nS
 split <;> omega
def RK (n:Nat) (st:List (List Nat) × Tr) (a b:Int):List (List Nat) × Tr :=
 (st.1.set (nS a st.1.length).toNat (Ma.aq (st.1.getD (nS a st.1.length).toNat []) (st.1.getD (nS b st.1.length).toNat [])),
  H5 n st.2 (Ma.aq (st.1.getD (nS a st.1.length).toNat []) (st.1.getD (nS b st.1.length).toNat [])))
def Vc (n:Nat) (s0:List (List Nat) × Tr) (vz:List Int):Nat->List (List Nat) × Tr
 | 0=>s0
 | k+1=>RK n (Vc n s0 vz k) (vz.getD (2*k) 0) (vz.getD (2*k+1) 0)
theorem H6 {n:Nat} {s0:List (List Nat) × Tr} {vz:List Int}:∀ k,(Vc n s0 vz k).1.length=s0.1.length
 | 0=>rfl
 | k+1=>by
  show ((Vc n s0 vz k).1.set _ _).length=_;rw [List.length_set,H6 k]
structure RI (n:Nat) (gs:List Nat->Prop) (st:List (List Nat) × Tr):Prop where
 gr:∀ x∈st.1,Gr n gs x
 tl:∃ l,TL n gs st.2 l/\∀ s,gs s->s∈l
theorem Dd {l:List (List Nat)} {i:Nat} (h:i<l.length):l.getD i []∈l:=by rw [jU h]; exact List.getElem_mem h
theorem RI.step {gs:List Nat->Prop} (hg:∀ s,gs s->Gd n s) {st:List (List Nat) × Tr} (h:RI n gs st) (h0:0<st.1.length) (a b:Int):RI n gs (RK n st a b):=by
 have ha:=vy (x:=a) (n:=st.1.length) (by omega);have hb:=vy (x:=b) (n:=st.1.length) (by omega);have hy:Gr n gs (Ma.aq (st.1.getD (nS a st.1.length).toNat []) (st.1.getD (nS b st.1.length).toNat [])):=.mul _ _ (h.gr _ (Dd (by omega))) (h.gr _ (Dd (by omega)));refine ⟨fun x hx=>?_,?_⟩
 ·rcases List.mem_or_eq_of_mem_set hx with h1 | h1
  ·exact h.gr x h1
  ·rw [h1]; exact hy
 ·obtain ⟨l,h1,h2⟩:=h.tl
  exact ⟨_,h1.ins hg hy,fun s hs=>List.mem_append.2 (.inl (h2 s hs))⟩
theorem RI.all {n:Nat} {gs:List Nat->Prop} (hg:∀ s,gs s->Gd n s) {s0:List (List Nat) × Tr} (h:RI n gs s0) (h0:0<s0.1.length) (vz:List Int):∀ k,RI n gs (Vc n s0 vz k)
 | 0=>h
 | k+1=>(RI.all hg h h0 vz k).step hg (by rw [H6]; exact h0) _ _
def MI (n:Nat) (l:List (List Nat)):Tr:=l.foldl (H5 n) (fun _ _=>none)
theorem TL.fold {n:Nat} {gs:List Nat->Prop} (hg:∀ s,gs s->Gd n s):∀ (l pre:List (List Nat)) (tr:Tr),TL n gs tr pre->(∀ x∈l,Gr n gs x)->TL n gs (l.foldl (H5 n) tr) (pre++l)
 | [],pre,tr,h,_=>by rw [List.append_nil]; exact h
 | x :: l,pre,tr,h,hx=>by
  have:=TL.fold hg l (pre++[x]) (H5 n tr x) (h.ins hg (hx x (by simp))) fun y hy=>hx y (by simp [hy]);rw [List.append_assoc] at this;exact this
theorem TL.MI {gs:List Nat->Prop} (hg:∀ s,gs s->Gd n s) (l:List (List Nat)) (h:∀ x∈l,Gr n gs x):TL n gs (MI n l) l:=TL.fold hg l [] _ (TL.nil n gs) h
def Vd (n:Nat) (gs:List (List Nat)):List (List Nat) × Tr:=(gs++gs.map Ma.bf,MI n gs)
theorem RI.start (hg:∀ s∈gs,Gd n s):RI n (·∈gs) (Vd n gs):=by
 refine ⟨fun x hx=>?_,gs,TL.MI hg gs fun x hx=>.gen x hx,fun s hs=>hs⟩
 rcases List.mem_append.1 hx with h | h
 ·exact .gen x h
 ·obtain ⟨y,hy,rfl⟩:=List.mem_map.1 h
  exact (Gr.dE hg).inv y (.gen y hy)
end
section
open Go.RowKit
open Go.Proofs.Cm (Tr)
theorem ef.push {l:List (List Nat)} (h:ef F M W v l) {u:Value} {x:List Nat} (hu:FP F W u x) (hs:∃ a m c,u=.slice a m c) (hF:∀ k,F k->k<W.heap.size) (hM:∀ k,M k->k<W.heap.size) (hn:l.length<1000000) (ty:TypeId) :
  ∃ a c X,(Builtin.append_ #[41,41] ty #[v,.slice (some ⟨W.heap.size,0,none⟩) 1 1]).run Tryz.prog (W.alloc (.cells #[u] 27))=.ok (.slice a (l.length+1) c) X/\ef F M X (.slice a (l.length+1) c) (l++[x])/\Rg.Kp (fun k=>v.ownBlock=some k) W X:=by
 obtain ⟨B,us,h0,h1,h2⟩:=h.own;obtain ⟨a0,m0,c0,rfl⟩:=hs;have hb:BE W (W.alloc (.cells #[.slice a0 m0 c0] 27)):=(Below.refl _ _).alloc (Nat.le_refl _) _;obtain ⟨v',X,r1,r2,r3,r4,a,c,rfl⟩:=fe (P:=Tryz.prog) aM ty (Rg.bP h1 hb) (Nat.le_trans h0 hb.size) W.heap.size 1 (u:=.slice a0 m0 c0) (by rw [Rg.aW]; rfl) rfl hn;have hk:Rg.Kp (fun k=>v.ownBlock=some k) W X:=Rg.Kp.trans (M:=fun k=>v.ownBlock=some k) ((Rg.Kp.aD hb).gS fun _=>False.elim) (Rg.Kp.cC r3 fun _ e=>e) (fun _ _ e=>e);have hg:∀ k,F k->¬ v.ownBlock=some k:=fun k g e=>(h.off k e).1 g;refine ⟨a,c,X,r1,⟨⟨B,us++[.slice a0 m0 c0],Nat.le_trans h0 hk.size,by rw [List.length_append]; exact r2,by rw [List.map_append]; exact bR.snoc (h2.kp hk hg) (Rg.FI.kp hu hk hg)⟩,fun k e=>?_⟩,hk⟩
 rcases r4 with r4 | r4
 ·exact h.off k (by rw [<- r4]; exact e)
 ·rw [r4] at e
  injection e with e
  have e2:(W.alloc (.cells #[.slice a0 m0 c0] 27)).heap.size=W.heap.size+1:=by simp
  exact ⟨fun g=>by have:=hF _ g; omega,fun g=>by have:=hM _ g; omega⟩
theorem ef.set {F M:Nat->Prop} {W:World} {g c:Nat} {l:List (List Nat)} (h:ef F M W (.slice (some ⟨g,0,none⟩) l.length c) l) (i:Nat) {u:Value} {x:List Nat} (hu:FP F W u x) :
  ef F M (W.setCell ⟨g,i,none⟩ u) (.slice (some ⟨g,0,none⟩) l.length c) (l.set i x)/\Rg.Kp (fun k=>k=g) W (W.setCell ⟨g,i,none⟩ u):=by
 obtain ⟨B,us,h0,h1,h2⟩:=h.own;have hk:Rg.Kp (fun k=>k=g) W (W.setCell ⟨g,i,none⟩ u):=Rg.Kp.aR rfl;have hg:∀ k,F k->¬ k=g:=fun k e e2=>(h.off g rfl).1 (e2▸e);have UL:=h2.kp hk hg;refine ⟨⟨⟨B,us.set i u,Nat.le_trans h0 hk.size,?_,?_,fun j hj sf=>?_⟩,h.off⟩,hk⟩
 ·rw [List.length_set]; exact (h1.stored i u).1
 ·rw [List.length_set,List.length_map,List.length_set,<- List.length_map (f:=Ma.ah)]; exact h2.1
 ·have e1:j<us.length:=by rwa [List.length_set] at hj
  have e2:j<l.length:=by rwa [List.length_map,List.length_set] at sf
  by_cases e:i=j
  ·subst e
   simp only [List.getElem_set_self,List.getElem_map];exact Rg.FI.kp hu hk hg
  ·simp only [List.getElem_set_ne e,List.getElem_map]
   have:=UL.2 j e1 (by rw [List.length_map]; exact e2)
   simpa using this
theorem ef.frozen {F M:Nat->Prop} {W:World} {g n c:Nat} {l:List (List Nat)} (h:ef F M W (.slice (some ⟨g,0,none⟩) n c) l) (hn:n=l.length) (i:Nat):W.frozen? ⟨g,i,none⟩=false:=by
 subst hn;obtain ⟨B,us,h0,h1,h2⟩:=h.own;exact h1.frozenAt i
end
section
open Go.RowKit
open Go.Proofs.Cm (Tr)
attribute [local irreducible] Go.Calls Go.wpList
theorem KI.gS {F F' M M':Nat->Prop} {w w':World} (h:KI F w F' w' M) (hM:∀ z,M z->M' z):KI F w F' w' M':=⟨h.kg,h.kp.gS hM,h.new⟩
theorem KI.trans {F F' F'' M:Nat->Prop} {w w' w'':World} (h:KI F w F' w' M) (h':KI F' w' F'' w'' M):KI F w F'' w'' M :=
 ⟨h.kg.trans h'.kg,Rg.Kp.trans (M:=M) h.kp h'.kp (fun _ _ e=>e),fun k hk=>by
  rcases h'.new k hk with e | e
  ·exact h.new k e
  ·exact .inr (Nat.le_trans h.kp.size e)⟩
end
section
open Go.RowKit
open Go.Proofs.Ob
open Go.Proofs.Cm (Tr dg)
attribute [local irreducible] Go.Calls Go.wpList
theorem ef.nil (F M:Nat->Prop) (W:World):ef F M W (.slice none 0 0) []:=⟨⟨W.heap.size,[],Nat.le_refl _,World.ownsRow_nil _ _ _ _,Rg.bR.nil _ _⟩,fun k e=>by simp [Value.ownBlock] at e⟩
end
section
open Go.RowKit
open Go.Proofs.Cm (Tr)
theorem KH {o:Oper} {a:Act} {w:World} {x1:Value} (F:FuncId) (f x:Operand) (qu:Array TypeId) (ho:o.op=.call { callee:=.value f,args:=#[x],argTypes:=qu }) (hf:a.eval f=.func (.func F) #[] #[u1]) (hx:a.eval x=x1)
  (hF:(callFunc F #[x1,u1]).run Tryz.prog w=.ok (.enter F #[x1,u1]) w):(execOp a.eval o).run Tryz.prog w=.ok (.enter F #[x1,u1]) w:=by
 unfold execOp;simp [ho,hx,hf,resolve,invoke,Deferred.ofValue,hF]
theorem CW.up {w:World} {b:Nat} (h:CW w b v) (hb:BE w w'):CW w' b v:=h.p hb
theorem ef.p {l:List (List Nat)} (h:ef F M W v l) (hb:BE W W'):ef F M W' v l:=by
 obtain ⟨B,us,g0,g1,g2⟩:=h.own;exact ⟨⟨B,us,Nat.le_trans g0 hb.size,Rg.bP g1 hb,g2.kp (M:=fun _=>False) (Rg.Kp.aD hb) (fun _ _=>id)⟩,h.off⟩
theorem KG.cU {w:World} (h:KG F0 w0 F w) (hb:BE w w'):KG F0 w0 F w':=h.zp (KF.aD hb)
end
section
open Go.RowKit
attribute [local irreducible] Go.Calls
theorem H7 (x:Int) (w:World):Calls Tryz.prog 162 #[.int .i64 x] w fun e w'=>e=.returned (.bool false)/\w'=w:=by
 go_enter Tryz.func162,Tryz.ntmps162
 go_wp2;go_ret;exact ⟨by simp,rfl⟩
theorem kZ (x:Int) (w:World):Calls Tryz.prog 141 #[.int .i64 x] w fun e w'=>e=.returned (.bool false)/\w'=w:=by
 go_enter Tryz.func141,Tryz.ntmps141
 go_wp2;go_ret;exact ⟨by simp,rfl⟩
theorem jW (x y:Int) (w:World):Calls Tryz.prog 140 #[.int .i64 x,.int .i64 y] w fun e w'=>e=.returned (.bool (decide (x<y)))/\w'=w:=by
 go_enter Tryz.func140,Tryz.ntmps140
 go_wp2_with (go_at_call 162; refine (H7 _ _).mono ?_; rintro e w' ⟨rfl,rfl⟩)
 go_ret;exact ⟨rfl,rfl⟩
theorem x4 (v:Value) (l:List Int) (x:Int) (w:World) (h:Rg.Ints w v l) (hs:l.Pairwise (·<=·)) (MF:l.length<1000000) :
  Calls Tryz.prog 112 #[v,.int .i64 x] w fun e w'=>e=.returned (.tuple #[.int .i64 ((l.countP (· < x):Nat):Int),.bool (l.contains x)])/\BE w w':=by
 obtain ⟨ad,cap,rfl,xX,_,_,aP⟩:=h.shape;have S:=U (show ∀ a b,a<=b->b<l.length->l.getD a 0<=l.getD b 0 from Lib.sorted_at l l.length (Nat.le_refl _) (by rw [List.take_length]; exact hs));have HC:=U aP;clear hs h aP xX
 go_enter Tryz.func112,Tryz.ntmps112
 go_wp2
 go_loopg [7,8] l.length (fun g s7 s8 wr=>∃ lo hi:Nat,s7=.int .i64 lo/\s8=.int .i64 hi/\lo<=hi/\hi<=l.length/\hi - lo<=g/\wr=w/\Hid ((∀ t,t<lo->l.getD t 0<x)/\(∀ t,hi<=t->t<l.length->x<=l.getD t 0)))
 case atStart=>exact ⟨0,l.length,rfl,rfl,Nat.zero_le _,Nat.le_refl _,by omega,rfl,U ⟨fun t ht=>absurd ht (Nat.not_lt_zero _),fun t h1 h2=>by omega⟩⟩
 case round =>
  obtain ⟨lo,hi,rfl,rfl,hlh,aS,hg,rfl,I⟩:=hrel
  by_cases az:lo<hi
  ·obtain ⟨b,off,rfl,hb,hc⟩:=HC.u (by omega)
   have cm:wr.cell? ⟨b,off+(lo+hi) / 2,none⟩=some (.int .i64 (l.getD ((lo+hi) / 2) 0)):=by
    rw [hc ((lo+hi) / 2) (by omega),List.getD_eq_getElem?_getD,List.getElem?_eq_getElem (by omega)]; rfl
   clear hc;generalize hy:l.getD ((lo+hi) / 2) 0=y at cm;have Y:=U hy;clear hy
   by_cases Yr:y<x
   ·go_wp2_with (first | (go_at_call 140; refine (jW _ _ _).mono ?_; rintro e w' ⟨rfl,rfl⟩) | (go_at_call 141; refine (kZ _ _).mono ?_; rintro e w' ⟨rfl,rfl⟩))
    go_roundg (hi - ((lo+hi) / 2+1))
    case measure=>omega
    case rel =>
     refine ⟨(lo+hi) / 2+1,hi,by rw [show ((lo:Int)+(hi:Int)) / 2+1=(((lo+hi) / 2+1:Nat):Int) by omega],rfl,by omega,aS,Nat.le_refl _,rfl,U ⟨fun t ht=>?_,I.u.2⟩⟩;have:=S.u t ((lo+hi) / 2) (by omega) (by omega);rw [Y.u] at this;omega
   ·go_wp2_with (first | (go_at_call 140; refine (jW _ _ _).mono ?_; rintro e w' ⟨rfl,rfl⟩) | (go_at_call 141; refine (kZ _ _).mono ?_; rintro e w' ⟨rfl,rfl⟩))
    go_roundg ((lo+hi) / 2 - lo)
    case measure=>omega
    case rel =>
     refine ⟨lo,(lo+hi) / 2,rfl,by rw [show ((lo:Int)+(hi:Int)) / 2=(((lo+hi) / 2:Nat):Int) by omega],by omega,by omega,Nat.le_refl _,rfl,U ⟨I.u.1,fun t ht jf=>?_⟩⟩;have:=S.u ((lo+hi) / 2) t ht jf;rw [Y.u] at this;omega
  ·have:hi=lo:=by omega
   subst this;have E:=U (Lib.search_end l l.length hi x (Nat.le_refl _) aS I.u.1 I.u.2 S.u);rw [List.take_length] at E
   by_cases hn:hi<l.length
   ·obtain ⟨b,off,rfl,hb,hc⟩:=HC.u (by omega)
    have cl:wr.cell? ⟨b,off+hi,none⟩=some (.int .i64 (l.getD hi 0)):=by
     rw [hc hi hn,List.getD_eq_getElem?_getD,List.getElem?_eq_getElem hn]; rfl
    clear hc;generalize hy:l.getD hi 0=y at cl;have Y:=U hy;clear hy
    by_cases Yr:y=x
    ·go_wp2_with (first | (go_at_call 140; refine (jW _ _ _).mono ?_; rintro e w' ⟨rfl,rfl⟩) | (go_at_call 141; refine (kZ _ _).mono ?_; rintro e w' ⟨rfl,rfl⟩))
     go_ret2;refine ⟨?_,Below.refl _ _⟩;rw [E.u.1,E.u.2,Y.u,decide_eq_true (show hi<l.length/\y=x from ⟨hn,Yr⟩)]
     first | rfl | simp [*]
    ·go_wp2_with (first | (go_at_call 140; refine (jW _ _ _).mono ?_; rintro e w' ⟨rfl,rfl⟩) | (go_at_call 141; refine (kZ _ _).mono ?_; rintro e w' ⟨rfl,rfl⟩))
     go_ret2;refine ⟨?_,Below.refl _ _⟩;rw [E.u.1,E.u.2,Y.u,decide_eq_false (show ¬ (hi<l.length/\y=x) from fun h=>Yr h.2)]
     first | rfl | simp [*]
   ·go_wp2_with (first | (go_at_call 140; refine (jW _ _ _).mono ?_; rintro e w' ⟨rfl,rfl⟩) | (go_at_call 141; refine (kZ _ _).mono ?_; rintro e w' ⟨rfl,rfl⟩))
    go_ret2;refine ⟨?_,Below.refl _ _⟩;rw [E.u.1,E.u.2,decide_eq_false (show ¬ (hi<l.length/\l.getD hi 0=x) from fun h=>hn h.1)]
    first | rfl | simp [*]
end
section
open Go.Proofs.Cm (Gr Gd ar cz St Tr Fx ap Rp mj Sd dn lO)
def oO (O:List (List Nat)) (R:List (List (List Nat))):Tr:=fun i p=>if p∈O.getD i [] then some ((R.getD i []).getD ((O.getD i []).idxOf p) []) else none
theorem xf {i p:Nat} (h:p∈O.getD i []):oO O R i p=some ((R.getD i []).getD ((O.getD i []).idxOf p) []):=if_pos h
theorem OG {i p:Nat} (h:¬ p∈O.getD i []):oO O R i p=none:=if_neg h
theorem RM {i p:Nat} {u:List Nat} (h:oO O R i p=some u):p∈O.getD i []/\u=(R.getD i []).getD ((O.getD i []).idxOf p) []:=by
 unfold oO at h
 split at h
 ·rename_i hm; injection h with h; exact ⟨hm,h.symm⟩
 ·cases h
theorem OH {l:List Nat} {p:Nat} (h:p∈l):l.getD (l.idxOf p) 0=p:=by
 have hl:=List.idxOf_lt_length_of_mem h;rw [List.getD_eq_getElem?_getD,List.getElem?_eq_getElem hl];exact List.getElem_idxOf hl
theorem qW (h:ar n H O R) {i p:Nat} (hi:i<n) {u:List Nat} (hu:oO O R i p=some u):lO n (fun z=>St H i z/\ap z i=p) u:=by
 obtain ⟨hm,rfl⟩:=RM hu;have:=h.rep i _ hi (List.idxOf_lt_length_of_mem hm)
 rwa [OH hm] at this
theorem KJ (hH:cz n H) {i:Nat} (hi:i<n) {u:List Nat} (h:lO n (fun z=>St H i z/\ap z i=i) u):u=Ma.bs n:=by
 have hg:=hH.gd u h.1.1.1
 rcases h.2 (Ma.bs n) ⟨⟨hH.one,Fx.one (by omega)⟩,Cm.dz hi⟩ with e | ⟨j,hj,h1,h2⟩
 ·exact e.symm
 ·rw [Cm.dz hj] at h2
  have h3:=h1 _ h2;rw [Cm.dz (by omega)] at h3;have:=Cm.kN hg (by omega) hj h3;omega
theorem De (hH:cz n H) (h:ar n H O R):mj n H (oO O R):=by
 refine ⟨⟨fun i p u _ hi hu=>hH.gd u (qW h hi hu).1.1.1,fun i p u _ hi hu=>(qW h hi hu).1.1.2,fun i p u _ hi hu=>(qW h hi hu).1.2,fun i _ hi=>?_⟩,fun i p u hi hu=>(qW h hi hu).1.1.1,fun i x hi hx=>?_⟩
 ·have hm:i∈O.getD i []:=(h.orb i i hi).2 ⟨Ma.bs n,⟨hH.one,Fx.one (by omega)⟩,Cm.dz hi⟩
  have e:=xf (R:=R) hm;rw [e];exact congrArg some (KJ hH hi (qW h hi e))
 ·exact ⟨_,xf ((h.orb i _ hi).2 ⟨x,hx,rfl⟩)⟩
theorem Ab:∀ {l:List Nat} {p:Nat},l.Pairwise (· < ·)->p∈l->(Ma.ah l).countP (· < ((p:Nat):Int))=l.idxOf p
 | [],p,_,h=>by simp at h
 | a :: l,p,hs,h=>by
  rw [List.pairwise_cons] at hs;show ((a:Int) :: Ma.ah l).countP _=_;rw [List.countP_cons]
  by_cases e:a=p
  ·subst e
   have:(Ma.ah l).countP (fun x=>decide (x<(a:Int)))=0:=by
    rw [List.countP_eq_zero];intro x hx;obtain ⟨y,hy,rfl⟩:=List.mem_map.1 hx;have:=hs.1 y hy;simp;omega
   rw [this];simp
  ·have hm:p∈l:=by
    rcases List.mem_cons.1 h with h | h
    ·exact absurd h.symm e
    ·exact h
   have az:=hs.1 p hm;rw [Ab hs.2 hm,List.idxOf_cons,if_pos (by simp; omega)]
   have:(a == p)=false:=by simpa using e
   rw [this]; rfl
theorem sR {l:List Nat} {p:Nat}:(Ma.ah l).contains ((p:Nat):Int)=decide (p∈l):=by
 rw [Bool.eq_iff_iff,List.contains_iff_mem,decide_eq_true_iff]
 constructor
 ·intro h
  obtain ⟨y,hy,e⟩:=List.mem_map.1 h
  have:y=p:=by omega
  exact this▸hy
 ·intro h
  exact List.mem_map.2 ⟨p,h,rfl⟩
theorem MJ {l:List Nat} (h:l.Pairwise (· < ·)):(Ma.ah l).Pairwise (·<=·):=by
 unfold Ma.ah;rw [List.pairwise_map];exact h.imp (fun {a b} h=>by omega)
def BG (n:Nat) (O:List (List Nat)) (R:List (List (List Nat))) (x:List Nat):Nat × List Nat:=dn n (oO O R) n x
theorem RN (hH:cz n H) (h:ar n H O R) {x:List Nat} (gx:Gd n x):(BG n O R x).1=n↔H x:=by
 have ht:=De hH h
 constructor
 ·intro e
  have key:∀ d x,d<=n->Gd n x->(dn n (oO O R) d x).1=n->H (dn n (oO O R) d x).2->H x:=by
   intro d
   induction d with
   | zero=>intro x _ _ _ h; exact h
   | succ d ih =>
    intro x hd gx he hx
    cases hu:oO O R (n - (d+1)) (ap x (n - (d+1))) with
    | none =>
     rw [Cm.kA hu] at he;simp at he;omega
    | some u =>
     rw [Cm.iG hu] at he hx;have hmu:=ht.mem _ _ _ (by omega) hu;have gu:=hH.gd u hmu;have:=ih _ (by omega) (Cm.bm gx (Cm.aX gu)) he hx;have h2:=hH.mul _ _ this hmu
     rwa [Cm.mul_inv_cancel gx gu] at h2
  have Gb:(dn n (oO O R) n x).2=Ma.bs n:=by
   have h1:=Cm.oh ht.rp (d:=n) (x:=x) (Nat.le_refl _) (Nat.zero_le _) gx (by rw [Nat.sub_self]; intro j hj; omega);refine Fx.all h1.2.2.1 ?_;have h2:=h1.2.2.2.1;have e2:(dn n (oO O R) n x).1=n:=e
   rwa [e2] at h2
  exact key n x (Nat.le_refl _) gx e (by rw [Gb]; exact hH.one)
 ·intro hx
  have key:∀ d x,d<=n->St H (n - d) x->(dn n (oO O R) d x).1=n:=by
   intro d
   induction d with
   | zero=>intro x _ _; rfl
   | succ d ih =>
    intro x hd hx;obtain ⟨u,hu⟩:=ht.all (n - (d+1)) x (by omega) hx;rw [Cm.iG hu];have gx:=hH.gd x hx.1;have hs:=Cm.uM ht.rp (Nat.zero_le _) (by omega) gx hx.2 hu;refine ih _ (by omega) ⟨hH.mul _ _ hx.1 (hH.inv _ (ht.mem _ _ _ (by omega) hu)),?_⟩;rw [show n - d=n - (d+1)+1 by omega];exact hs.2
  exact key n x (Nat.le_refl _) ⟨hx,by rw [Nat.sub_self]; intro j hj; omega⟩
end
section
open Go.RowKit
open Go.Shelf
open Go.Proofs.Cm (Tr Gd ap dn)
attribute [local irreducible] Go.Calls Go.wpList
def nT (tr:Tr):List Nat->List Nat->Option (List Nat)
 | [],x=>some x
 | i :: l,x=>match tr i (ap x i) with
  | none=>none
  | some u=>nT tr l (Ma.aq x (Ma.bf u))
theorem Df (tr:Tr):∀ (l:List Nat) (x:List Nat) (i:Nat) {y u:List Nat},nT tr l x=some y->tr i (ap y i)=some u->nT tr (l++[i]) x=some (Ma.aq y (Ma.bf u))
 | [],x,i,y,u,h,h2=>by
  cases h
  show (match tr i (ap x i) with | none=>none | some u=>nT tr [] (Ma.aq x (Ma.bf u)))=_
  rw [h2]; rfl
 | j :: l,x,i,y,u,h,h2=>by
  have h':(match tr j (ap x j) with | none=>none | some u=>nT tr l (Ma.aq x (Ma.bf u)))=some y:=h
  show (match tr j (ap x j) with | none=>none | some u=>nT tr (l++[i]) (Ma.aq x (Ma.bf u)))=_
  cases e:tr j (ap x j) with
  | none=>rw [e] at h'; cases h'
  | some v =>
   rw [e] at h';exact Df tr l _ i h' h2
theorem H8 (tr:Tr):∀ (l m:List Nat) (x:List Nat),nT tr (l++m) x=(nT tr l x).bind (nT tr m)
 | [],m,x=>rfl
 | j :: l,m,x=>by
  show (match tr j (ap x j) with | none=>none | some u=>nT tr (l++m) (Ma.aq x (Ma.bf u)))=Option.bind (match tr j (ap x j) with | none=>none | some u=>nT tr l (Ma.aq x (Ma.bf u))) _
  cases tr j (ap x j) with
  | none=>rfl
  | some v=>exact H8 tr l m _
theorem tT {n:Nat} {tr:Tr} {x:List Nat}:∀ {k:Nat} {y:List Nat},k<=n->nT tr (List.range k) x=some y->dn n tr n x=dn n tr (n - k) y
 | 0,y,_,h=>by cases h; rfl
 | k+1,y,hk,h=>by
  rw [List.range_succ,H8] at h
  cases e:nT tr (List.range k) x with
  | none=>rw [e] at h; cases h
  | some z =>
   rw [e] at h;rw [tT (by omega) e]
   have h':(match tr k (ap z k) with | none=>none | some u=>nT tr [] (Ma.aq z (Ma.bf u)))=some y:=h
   have ek:n - (n - (k+1)+1)=k:=by omega
   rw [show n - k=n - (k+1)+1 by omega]
   cases e2:tr k (ap z k) with
   | none=>rw [e2] at h'; cases h'
   | some u =>
    rw [e2] at h'
    cases h'
    exact Cm.iG (by rw [ek]; exact e2)
theorem OI {tr:Tr} {x y:List Nat} {k:Nat} (hk:k<n) (h:nT tr (List.range k) x=some y) (h2:tr k (ap y k)=none):dn n tr n x=(k,y):=by
 rw [tT (Nat.le_of_lt hk) h,show n - k=n - (k+1)+1 by omega]
 have ek:n - (n - (k+1)+1)=k:=by omega
 rw [Cm.kA (by rw [ek]; exact h2),ek]
theorem OJ {tr:Tr} {x y:List Nat} (h:nT tr (List.range n) x=some y):dn n tr n x=(n,y):=by
 rw [tT (Nat.le_refl _) h,Nat.sub_self]; rfl
theorem Ex {n:Nat} {tr:Tr} (ht:∀ i p u,i<n->tr i p=some u->Gd n u):∀ {l:List Nat} {x y:List Nat},(∀ i∈l,i<n)->Gd n x->nT tr l x=some y->Gd n y
 | [],x,y,_,gx,h=>by cases h; exact gx
 | i :: l,x,y,hl,gx,h=>by
  have h':(match tr i (ap x i) with | none=>none | some u=>nT tr l (Ma.aq x (Ma.bf u)))=some y:=h
  cases e:tr i (ap x i) with
  | none=>rw [e] at h'; cases h'
  | some u =>
   rw [e] at h';exact Ex ht (fun j hj=>hl j (List.mem_cons_of_mem _ hj)) (Cm.bm gx (Cm.aX (ht i _ u (hl i (List.mem_cons_self ..)) e))) h'
theorem mB {m:Nat}:∀ {k:Nat},k<=m->(eF m k).map (fun x=>x.1)=List.range k
 | 0,_=>rfl
 | k+1,h=>by
  rw [nh h,List.map_append,mB (Nat.le_of_succ_le h),List.range_succ]; rfl
theorem Ey {g:Operand} {ps:Array Go.Tmp} {assign body:Code} {Q:Exit->Act->World->Prop} {a:Act} {w:World} {m cap fb:Nat} {ad:Option Addr} {RV:Nat->Value}
  (hg:a.eval g=.func (.func 97) #[] #[.pointer (some ⟨fb,0,none⟩)]) (nP:CL w fb 2 (.slice ad m cap)) (h:Er n₀ w ad m RV) (Hs:ps.size=2)
  (I:List (Fin m)->World->Prop) (Ix:Code->List (Fin m)->World->Prop) (hI:OwnFrom w.heap.size I) (hIx:∀ c,OwnFrom w.heap.size (Ix c)) (h0:I [] w) (oM:Fin m->Act)
  (qR:∀ (l:Nat) (x:Fin m) (W:World) (K:Act->World->Prop),K (oM x) W->assign.wpIn (Fence.wide.inRound l) 1 Tryz.prog (Exit.then K (fun _ _ _=>False)) { tmps:=(ps.zip #[Value.int .i64 ((x.1:Nat):Int),RV x.1]).foldl (fun t (p,v)=>t.setIfInBounds p v) a.tmps,defers:=[] } W)
  (zX:∀ (l:Nat) (pre:List (Fin m)) (x:Fin m) (W:World),I pre W->pre.length<m->body.wpIn (Fence.wide.inRound l) 1 Tryz.prog (ownPostG w.heap.size (Below n₀) I Ix (pre++[x]) W) (oM x) W)
  (zY:∀ (D:Nat) (W:World),w.heap.size<=D->I (eF m m) W->RF.fq D W->Q .normal { a with defers:=RF.mark D :: a.defers } W)
  (zZ:∀ (D:Nat) (c:Code) (k:Nat) (W:World),w.heap.size<=D->k<=m->Ix c (eF m k) W->RF.fq D W->c.wp Tryz.prog Q { a with defers:=RF.mark D :: a.defers } W) :
  (Code.rangeFunc g ps assign body).wp Tryz.prog Q a w :=
 wpIn_wide.1 (wpIn_rangeFunc_ownG (F:=Fence.wide) (n:=3) rfl (by decide) (gf:=97) (lb:=#[.pointer (some ⟨fb,0,none⟩)]) hg trivial (enters_of Tryz.func97 (by kernel_rfl) rfl)
  (xZ h nP 2 (by decide)) belowK_t (belowK_b h.sz) (Below.refl _ _) (fun _=>Hs.symm) I Ix hI hIx h0 oM qR zX
  (fun D xs W hD hx hi hd=>by subst hx; exact zY D W hD hi hd) (fun D c pre W hD hp hi hd=>by obtain ⟨k,hk,rfl⟩:=hp; exact wpIn_wide.2 (zZ D c k W hD hk hi hd)))
theorem RQ {row:Option Nat} (hg:W.grownBy W' row) (hr:∀ r,row=some r->∃ o:Obj,W.heap[r]?=some o/\o.isCells=false) {a:Addr} (h:W.cell? a=some v):W'.cell? a=some v:=by
 have key:W'.heap[a.block]?=W.heap[a.block]?:=by
  unfold World.cell? at h
  cases e:W.heap[a.block]? with
  | none=>rw [e] at h; cases h
  | some o =>
   rw [e] at h;have az:=(Array.getElem?_eq_some_iff.1 e).1;refine (hg.block _ az fun e2=>?_).trans e;obtain ⟨o',ho,hc⟩:=hr _ e2.symm;rw [e] at ho
   cases ho
   cases o <;> simp at h <;> cases hc
 rw [World.cell?_of_block key];exact h
theorem xg {row:Option Nat} (hg:W.grownBy W' row) (hr:∀ r,row=some r->∃ o:Obj,W.heap[r]?=some o/\o.isCells=false) {us:List Value} (h:Rg.cK F W v us):Rg.cK F W' v us:=by
 obtain ⟨a,cap,e,h1,h2,h3,h4⟩:=h;refine ⟨a,cap,e,h1,h2,h3,fun h0=>?_⟩;obtain ⟨b,o,e1,e2,e3,e4⟩:=h4 h0;exact ⟨b,o,e1,Nat.lt_of_lt_of_le e2 hg.size,e3,fun i hi=>RQ hg hr (e4 i hi)⟩
theorem RS {row:Option Nat} (hg:W.grownBy W' row) (hr:∀ r,row=some r->∃ o:Obj,W.heap[r]?=some o/\o.isCells=false) {p:List Nat} (h:FP F W v p):FP F W' v p:=xg hg hr h
def yK (w:World) (z:Nat):Prop:=z<w.heap.size∨w.heap.size+4<=z
structure vA (w:World) (n:Int) (ov rv:Value) (W:World) (yv:Value) (y:List Nat):Prop where
 cU:BE w W
 a0:CL W w.heap.size 0 (.int .i64 n)
 a1:CL W w.heap.size 1 ov
 a2:CL W w.heap.size 2 rv
 cx:CW W (w.heap.size+1) yv
 c4:CW W (w.heap.size+2) (.slice none 0 0)
 c5:CW W (w.heap.size+3) (.int .i64 0)
 fp:FP (yK w) W yv y
theorem OL {w:World} {p:List Nat} (h:FP F w v p) (hb:BE w w'):FP F w' v p:=h.kf (KF.aD hb)
theorem vA.p {w:World} {n:Int} {ov rv:Value} {W W':World} {yv:Value} {y:List Nat} (h:vA w n ov rv W yv y) (hb:BE W W'):vA w n ov rv W' yv y :=
 ⟨h.cU.trans (hb.mono h.cU.size),h.a0.up hb,h.a1.up hb,h.a2.up hb,h.cx.p hb,h.c4.p hb,h.c5.p hb,OL h.fp hb⟩
theorem vA.keep {w:World} {n:Int} {y:List Nat} {row:Option Nat} (h:vA w n ov rv W yv y) (hB:w.heap.size+4<=B) (hg:W.grownBy W' row) (hr:∀ r,row=some r->B<=r/\∃ o:Obj,W.heap[r]?=some o/\o.isCells=false):vA w n ov rv W' yv y:=by
 have hk:Rg.Kp (fun k=>row=some k) W W':=Rg.Kp.cC hg fun _ e=>e
 have hM:∀ b,b<B->¬ row=some b:=fun b hb e=>by have:=(hr b e).1; omega
 exact ⟨h.cU.grown hg h.cU.size (fun k e=>by have:=(hr k e).1; omega),h.a0.kp hk (hM _ (by omega)),h.a1.kp hk (hM _ (by omega)),h.a2.kp hk (hM _ (by omega)),h.cx.kp hk (hM _ (by omega)),h.c4.kp hk (hM _ (by omega)),h.c5.kp hk (hM _ (by omega)),RS hg (fun r e=>(hr r e).2) h.fp⟩
theorem vA.set {w:World} {n:Int} {ov rv:Value} {W:World} {yv Ve:Value} {y y':List Nat} (h:vA w n ov rv W yv y) (hp:FP (yK w) W Ve y'):vA w n ov rv (W.setCell ⟨w.heap.size+1,0,none⟩ Ve) Ve y':=by
 have hk:Rg.Kp (fun z=>z=w.heap.size+1) W (W.setCell ⟨w.heap.size+1,0,none⟩ Ve):=Rg.Kp.aR rfl;exact ⟨h.cU.setCell (p:=⟨w.heap.size+1,0,none⟩) (by show w.heap.size<=w.heap.size+1; omega) _,h.a0.kp hk (by omega),h.a1.kp hk (by omega),h.a2.kp hk (by omega),h.cx.set _,h.c4.kp hk (by omega),h.c5.kp hk (by omega),Rg.FI.kp hp hk (fun z hz e=>by unfold yK at hz; omega)⟩
theorem Vf {w:World} {p:List Nat} (hW:w.heap.size+4<=W.heap.size) (hv:Rg.oZ W W' v p):FP (yK w) W' v p:=by
 refine (FP.new (F:=yK w) hv).mono fun k hk=>?_
 rcases hk with hk | hk
 ·exact hk
 ·exact .inr (by omega)
structure RU (w W:World) (i:Nat) (yv:Value) (y:List Nat):Prop where
 cU:BE w W
 c4:CW W (w.heap.size+2) yv
 c5:CW W (w.heap.size+3) (.int .i64 ((i:Nat):Int))
 fp:FP (yK w) W yv y
theorem RU.keep {w:World} {i:Nat} {y:List Nat} {row:Option Nat} (h:RU w W i yv y) (hB:w.heap.size+4<=B) (hg:W.grownBy W' row) (hr:∀ r,row=some r->B<=r/\∃ o:Obj,W.heap[r]?=some o/\o.isCells=false):RU w W' i yv y:=by
 have hk:Rg.Kp (fun k=>row=some k) W W':=Rg.Kp.cC hg fun _ e=>e
 have hM:∀ b,b<B->¬ row=some b:=fun b hb e=>by have:=(hr b e).1; omega
 exact ⟨h.cU.grown hg h.cU.size (fun k e=>by have:=(hr k e).1; omega),h.c4.kp hk (hM _ (by omega)),h.c5.kp hk (hM _ (by omega)),RS hg (fun r e=>(hr r e).2) h.fp⟩
theorem vA.stop {w:World} {n:Int} {y:List Nat} (h:vA w n ov rv W yv y) (i:Nat):RU w ((W.setCell ⟨w.heap.size+2,0,none⟩ yv).setCell ⟨w.heap.size+3,0,none⟩ (.int .i64 ((i:Nat):Int))) i yv y:=by
 have gO:Rg.Kp (fun z=>z=w.heap.size+2) W (W.setCell ⟨w.heap.size+2,0,none⟩ yv):=Rg.Kp.aR rfl;have dF:Rg.Kp (fun z=>z=w.heap.size+3) (W.setCell ⟨w.heap.size+2,0,none⟩ yv) ((W.setCell ⟨w.heap.size+2,0,none⟩ yv).setCell ⟨w.heap.size+3,0,none⟩ (.int .i64 (i:Int))):=Rg.Kp.aR rfl
 exact ⟨(h.cU.setCell (p:=⟨w.heap.size+2,0,none⟩) (by show w.heap.size<=w.heap.size+2; omega) _).setCell (p:=⟨w.heap.size+3,0,none⟩) (by show w.heap.size<=w.heap.size+3; omega) _,(h.c4.set _).other _ (by omega),(h.c5.other _ (by omega)).set _,
  Rg.FI.kp (Rg.FI.kp h.fp gO (fun z hz e=>by unfold yK at hz; omega)) dF (fun z hz e=>by unfold yK at hz; omega)⟩
end
section
open Go.RowKit
open Go.Proofs.Ob
open Go.Shelf
open Go.Proofs.Cm (Tr Gd ap dn)
attribute [local go_sem] Oper.semAt_some
attribute [local irreducible] Go.Calls Go.wpList Go.wpListIn
theorem KM (args:Array Value) (w:World):(callFunc 112 args).run Tryz.prog w=.ok (.enter 112 args) w:=by kernel_rfl
theorem ji {fn:Func} {p u:Go.Tmp} {t1 t2:TypeId} (h:fn.results=#[.cell p t1,.cell u t2]) (tmps:Array Value) {w:World} {b1 b2:Nat} (hp:tmps.getD p undef=.pointer (some ⟨b1,0,none⟩)) (hu:tmps.getD u undef=.pointer (some ⟨b2,0,none⟩))
  (h1:(loadVar t1 ⟨b1,0,none⟩).run Tryz.prog w=.ok v1 w) (h2:(loadVar t2 ⟨b2,0,none⟩).run Tryz.prog w=.ok v2 w) :
  (results fn tmps).run Tryz.prog w=.ok (.tuple #[v1,v2]) w:=by
 have DV:tmps[p]?.getD undef=.pointer (some ⟨b1,0,none⟩):=by simpa using hp
 have jG:tmps[u]?.getD undef=.pointer (some ⟨b2,0,none⟩):=by simpa using hu
 simp [results,h,DV,jG,asAddr,h1,h2,Result.andThen]
theorem sS {o:Oper} {a:Act} {w:World} (ho:o.op=.alloc 27):(execOp a.eval o).run Tryz.prog w=.ok (.value (.pointer (some ⟨w.heap.size,0,none⟩))) (w.alloc (.cells #[.slice none 0 0] 27)):=by
 obtain ⟨i0,hi,dw,bJ,dZ⟩:=info_parts cX;unfold execOp;simp [ho,Instr.alloc,typeInfo,zeroValue,hi,dw,newVar,Value.cells,Result.andThen];rfl
theorem ft (hc:∀ a,W'.cell? a=W.cell? a) (hs:W.heap.size<=W'.heap.size) {us:List Value} (h:Rg.cK F W v us):Rg.cK F W' v us:=by
 obtain ⟨a,cap,e,h1,h2,h3,h4⟩:=h;refine ⟨a,cap,e,h1,h2,h3,fun h0=>?_⟩;obtain ⟨b,o,e1,e2,e3,e4⟩:=h4 h0;exact ⟨b,o,e1,Nat.lt_of_lt_of_le e2 hs,e3,fun i hi=>(hc _).trans (e4 i hi)⟩
def Ez (n:Nat) (O:List (List Nat)) (R:List (List (List Nat))) (x:List Nat) (w:World) (e:Ending) (w':World):Prop:=∃ v,e=.returned (.tuple #[v,.int .i64 (((BG n O R x).1:Nat):Int)])/\Rg.NP w' v (BG n O R x).2/\BE w w'
theorem Dg {x:List Nat} {w:World} {tmps:Array Value} {y:List Nat} {i:Nat} {ds:List Nat} (hb:BE w W) (h4:CW W (w.heap.size+2) yv) (h5:CW W (w.heap.size+3) (.int .i64 ((i:Nat):Int))) (hp:FP (yK w) W yv y) (he:BG n O R x=(i,y)) (p4:tmps.getD 4 undef=.pointer (some ⟨w.heap.size+2,0,none⟩)) (p5:tmps.getD 5 undef=.pointer (some ⟨w.heap.size+3,0,none⟩)) (hnd:ds.Nodup) (hD:∀ D,D∈ds->RF.fq D W/\w.heap.size<=D) :
  LeavesInM Fence.wide 0 Tryz.prog Tryz.f90 tmps (Ez n O R x w) (ds.map RF.mark) .returning W :=
 RF.leaves w.heap.size ds W hnd hD fun W' l1 l2 _=>⟨_,ji rfl _ p4 p5 (Rg.ae _ _ Tryz.underlying27 ((l2 _).trans h4.c)) (af ((l2 _).trans h5.c)),yv,by rw [he],by rw [he]; exact FP.np (ft l2 l1.size hp),hb.trans l1⟩
def SfX {m:Nat} (w:World) (tr:Tr) (x:List Nat) (pre:List (Fin m)) (W:World):Prop:=∃ xE X yv y,pre=xE++[X]/\RU w W X.1 yv y/\nT tr (xE.map fun z=>z.1) x=some y/\tr X.1 (ap y X.1)=none
theorem EA {m k:Nat} (hk:k<=m) {pre:List (Fin m)} {x:Fin m} (h:eF m k=pre++[x]):k=x.1+1/\pre=eF m x.1:=by
 cases k with
 | zero=>have:=congrArg List.length h; simp [Ho] at this
 | succ k =>
  rw [nh hk] at h;obtain ⟨e1,e2⟩:=List.append_inj' h rfl
  injection e2 with e2
  subst e2;exact ⟨rfl,e1.symm⟩
theorem yX {y:List Nat} (h:Gd n y) {z:Nat} (hz:z∈y):z<n:=by
 obtain ⟨i,hi,rfl⟩:=List.getElem_of_mem hz;have:=Cm.cS h (i:=i) (by rw [<- h.2]; exact hi)
 rwa [Cm.kz hi] at this
theorem R3 {l:List Nat} {q k:Nat} {w:World} (h:Rg.Ints w v (Ma.ah l)) (hs:l.Pairwise (· < ·)) (hl:l.length<1000000) (hm:q∈l) (hk:Hid (l.idxOf q=k)) :
  Calls Tryz.prog 112 #[v,.int .i64 ((q:Nat):Int)] w fun e w'=>e=.returned (.tuple #[.int .i64 ((k:Nat):Int),.bool true])/\BE w w':=by
 refine (x4 v (Ma.ah l) q w h (MJ hs) (by rw [Ma.aB]; exact hl)).mono ?_;rintro e w' ⟨rfl,hb⟩;exact ⟨by rw [Ab hs hm,sR,decide_eq_true hm,hk.u],hb⟩
theorem Vg {l:List Nat} {q:Nat} {w:World} (h:Rg.Ints w v (Ma.ah l)) (hs:l.Pairwise (· < ·)) (hl:l.length<1000000) (hm:¬ q∈l) :
  Calls Tryz.prog 112 #[v,.int .i64 ((q:Nat):Int)] w fun e w'=>∃ k,e=.returned (.tuple #[.int .i64 k,.bool false])/\BE w w':=by
 refine (x4 v (Ma.ah l) q w h (MJ hs) (by rw [Ma.aB]; exact hl)).mono ?_;rintro e w' ⟨rfl,hb⟩;exact ⟨_,by rw [sR,decide_eq_false hm],hb⟩
theorem KN (aU:1<=n) (aZ:n<=64) (hH:Cm.cz n H) (bT:Cm.ar n H O R) (JJ:OO=O.map Ma.ah) (H9:RR=R.map (List.map Ma.ah)) {x:List Nat} {w:World} (h:bl w ov rv OO RR) (hx:Rg.NP w xv x) (gx:Gd n x) :
  Calls Tryz.prog 90 #[.agg #[.int .i64 ((n:Nat):Int),ov,rv],xv] w (Ez n O R x w):=by
 obtain ⟨oa,oc,rfl,-,Yg,-,-⟩:=h.1.shape;obtain ⟨ra,rc,rfl⟩:=h.2.shape;obtain ⟨xa,xc,rfl,-⟩:=Rg.Ints.shape hx;have qe:x.length=n:=gx.2;rw [Ma.aB,qe] at hx ⊢;have HO:=U h.1;have HR:=U h.2;have HX:=U hx;have GX:=U gx;have HH:=U hH;have dc:=U bT;have HOO:=U JJ;have Ys:=U H9;have RB:=U (show OO.length=n by rw [JJ,List.length_map,bT.i_]);have sy:=U (show RR.length=n by rw [H9,List.length_map,bT.iN]);have EB:=U (show ∀ i p u,i<n->oO O R i p=some u->Gd n u from fun i p u hi hu=>(De hH bT).rp.gd i p u (Nat.zero_le _) hi hu);have K:=U (bi w);clear h hx gx hH bT JJ H9 qe;refine RF.iK Tryz.func90 rfl ?_;simp only [Tryz.ntmps90,List.size_toArray,List.length_cons,List.length_nil,Nat.reduceAdd,Nat.reduceSub,Array.replicate_succ,Array.replicate_zero,List.push_toArray,List.append_toArray,List.nil_append,List.cons_append];have aN:=eA w (.int .i64 (n:Int)) (.slice oa OO.length oc) (.slice ra RR.length rc)
 have hs:(w.alloc (.cells #[.int .i64 (n:Int),.slice oa OO.length oc,.slice ra RR.length rc] 25)).heap.size=w.heap.size+1:=by simp
 go_upto_region 0 with fail;refine c6<|k8 (Rg.aY _ _ rfl rfl) ?_;go_frame;have hb:BE w (w.alloc (.cells #[.int .i64 (n:Int),.slice oa OO.length oc,.slice ra RR.length rc] 25)):=(Below.refl _ _).alloc (Nat.le_refl _) _;generalize w.alloc (.cells #[.int .i64 (n:Int),.slice oa OO.length oc,.slice ra RR.length rc] 25)=w1 at *;have A0:=U aN.1;have A1:=U aN.2.1;have A2:=U aN.2.2;replace K:=U hb;have nB:w1.heap.size=w.heap.size+1:=hs;clear aN hb hs;have cO:=CW.new w1 (.slice xa n xc) 27
 have hs:(w1.alloc (.cells #[.slice xa n xc] 27)).heap.size=w1.heap.size+1:=by simp
 refine k8 (jt (v:=.slice xa n xc) _ _ rfl rfl rfl) ?_;go_frame;have hb:=be w1 (.cells #[.slice xa n xc] 27);generalize w1.alloc (.cells #[.slice xa n xc] 27)=w2 at *;replace A0:=U (A0.u.p hb);replace A1:=U (A1.u.p hb);replace A2:=U (A2.u.p hb);replace K:=U (Rg.acc K.u hb);clear hb;rw [nB] at cO ⊢
 have jC:w2.heap.size=w.heap.size+2:=by omega
 have CX:=U cO;clear cO hs;have cO:=CW.new w2 (.slice none 0 0) 27
 have hs:(w2.alloc (.cells #[.slice none 0 0] 27)).heap.size=w2.heap.size+1:=by simp
 refine k8 (sS rfl) ?_;go_frame;have hb:=be w2 (.cells #[.slice none 0 0] 27);generalize w2.alloc (.cells #[.slice none 0 0] 27)=w3 at *;replace A0:=U (A0.u.p hb);replace A1:=U (A1.u.p hb);replace A2:=U (A2.u.p hb);replace CX:=U (CX.u.p hb);replace K:=U (Rg.acc K.u hb);clear hb;rw [jC] at cO ⊢
 have Eu:w3.heap.size=w.heap.size+3:=by omega
 have C4:=U cO;clear cO hs;have cO:=CW.new w3 (.int .i64 0) 3
 have hs:(w3.alloc (.cells #[.int .i64 0] 3)).heap.size=w3.heap.size+1:=by simp
 refine k8 (pF rfl) ?_;go_frame;have hb:=be w3 (.cells #[.int .i64 0] 3);generalize w3.alloc (.cells #[.int .i64 0] 3)=w4 at *;replace A0:=U (A0.u.p hb);replace A1:=U (A1.u.p hb);replace A2:=U (A2.u.p hb);replace CX:=U (CX.u.p hb);replace C4:=U (C4.u.p hb);replace K:=U (Rg.acc K.u hb);clear hb;rw [Eu] at cO ⊢
 have Rz:w4.heap.size=w.heap.size+4:=by omega
 have C5:=U cO;clear cO hs;have Vh:=U (show Rg.Ints w4 (.slice xa n xc) (Ma.ah x) from Rg.Ints.p HX.u K.u);go_upto_region 1 with fail;refine c6<|k8 (g7 (.slice xa n xc) ⟨(w.heap.size+1),0,none⟩ (Rg.ae _ _ Tryz.underlying27 CX.u.c)) ?_;go_frame;refine f4 11 (aA 75 _ _ rfl rfl (wU _ _)) ?_;refine (po _ (Ma.ah x) w4 Vh.u (by rw [Ma.aB,GX.u.2]; exact aU) (by rw [Ma.aB,GX.u.2]; omega)).mono ?_;rintro e1 w5 ⟨yv0,rfl,hyr,hb⟩;have Yt:FP (yK w) w5 yv0 x:=g_.fi ⟨hyr⟩ (by rw [Ma.aB,GX.u.2]; omega) (G:=yK w) (fun k g1 g2=>.inr (by omega));obtain ⟨ya0,yo0,yc0,rfl⟩:=FP.du Yt GX.u aU;clear hyr;refine ⟨_,rfl,?_⟩;go_frame;replace A0:=U (A0.u.p hb);replace A1:=U (A1.u.p hb);replace A2:=U (A2.u.p hb);replace CX:=U (CX.u.p hb);replace C4:=U (C4.u.p hb);replace C5:=U (C5.u.p hb);replace Vh:=U (Vh.u.p hb);replace K:=U (Rg.acc K.u hb);clear hb;have HY:=U Yt;refine Rg.aG none rfl rfl (Rg.ak _ _ _ rfl _ rfl _ rfl (Rg.bz _ cX CX.u.c CX.u.f)) ?_;go_frame;clear Yt;have mP:=vA.set (yv:=.slice xa n xc) (y:=x) (show vA w (n:Int) (.slice oa OO.length oc) (.slice ra RR.length rc) w5 (.slice xa n xc) x from ⟨K.u,A0.u,A1.u,A2.u,CX.u,C4.u,C5.u,(show FP (yK w) w5 (.slice xa n xc) x from (Rg.FI.mono (Rg.FI.kp (Rg.FI.o5 HX.u) (Rg.Kp.aD (M:=fun _=>False) K.u) (fun _ _=>id)) (fun k hk=>.inl hk)))⟩) HY.u;have cR:w.heap.size+4<=w5.heap.size:=C5.u.lt
 have hs9:(w5.setCell ⟨w.heap.size+1,0,none⟩ (.slice (some ⟨ya0,yo0,none⟩) n yc0)).heap.size=w5.heap.size:=by simp
 rw [<- hs9] at cR;generalize w5.setCell ⟨w.heap.size+1,0,none⟩ (.slice (some ⟨ya0,yo0,none⟩) n yc0)=Br at *;have SI:=U mP;have kI:=U cR;clear mP cR hs9 nB jC Eu Rz A0 A1 A2 CX C4 C5 Vh HY;replace K:=U SI.u.cU;go_upto_region 2 with fail;refine c6<|k8 (g7 ((.agg #[.int .i64 (n:Int),.slice oa OO.length oc,.slice ra RR.length rc])) ⟨w.heap.size,0,none⟩ (aC SI.u.a0.cell SI.u.a1.cell SI.u.a2.cell)) ?_;go_frame;refine f4 13 (aA 74 _ _ rfl rfl (Kv _ _)) ?_;refine (xd _ _ _ Br).mono ?_;rintro e1 dr ⟨fb,rfl,nP,hb⟩;have cR:=hb.size;refine ⟨_,rfl,?_⟩;go_frame;replace SI:=U (SI.u.p hb);replace K:=U (Rg.acc K.u hb);clear hb;have FB:=U nP;clear nP;have jS:=U (show w.heap.size+4<=dr.heap.size by have:=kI.u; omega);clear cR;obtain ⟨us,nz,z_,Hu⟩:=HR.u;have RC:=U Hu
 have Hv:Er w.heap.size dr ra RR.length (fun k=>us[k]?.getD undef):=by
  obtain ⟨a',c',e,q1,q2,q3,q4⟩:=nz
  injection e with e1 e2 e3
  refine ⟨by have:=sy.u; omega,fun h0=>?_,fun b off e5 j hj=>?_,K.u.size⟩
  ·obtain ⟨b,o,e4,e5,_⟩:=q4 (by omega)
   exact ⟨b,o,e1.trans e4,e5⟩
  ·obtain ⟨b',o',e4,e6,e7⟩:=q4 (by omega)
   rw [e1,e4] at e5;simp only [Option.some.injEq,Addr.mk.injEq,and_true] at e5;obtain ⟨rfl,rfl⟩:=e5;rw [(K.u.cell (p:=⟨b',o'+j,none⟩) e6)];show _=some (us[j]?.getD undef);rw [List.getElem?_eq_getElem (by omega)];exact e7 j (by omega)
 have Aa:=U Hv;have tQ:=U z_;clear nz Hv z_ Hu;go_wp2
 refine Ey rfl FB.u Aa.u rfl (fun pre W=>∃ yv y,vA w ((n:Nat):Int) (.slice oa OO.length oc) (.slice ra RR.length rc) W yv y/\nT (oO O R) (pre.map fun z=>z.1) x=some y)
  (fun c pre W=>c=.ret/\SfX w (oO O R) x pre W) ?hI ?hIx ⟨_,_,SI.u,rfl⟩ ?a1 ?assign ?body ?done ?stop
 case assign =>
  intro l x W K hK
  gi_wp2
  exact hK
 case hI =>
  rintro pre W W' row ⟨yv,y,h1,h2⟩ hg hr;exact ⟨yv,y,h1.keep (by have:=jS.u; omega) hg hr,h2⟩
 case hIx =>
  rintro c pre W W' row ⟨rfl,xE,X,yv,y,h1,h2,h3⟩ hg hr;exact ⟨rfl,xE,X,yv,y,h1,h2.keep (by have:=jS.u; omega) hg hr,h3⟩
 case body =>
  rintro l pre ⟨X,hX⟩ Wb ⟨yv,y,mP,H_⟩ OA;obtain ⟨B,hB⟩:∃ B,dr.heap.size=B:=⟨_,rfl⟩;rw [hB] at jS ⊢;clear FB Aa SI K hB
  have sB:X<n:=by have:=sy.u; omega
  have gy:Gd n y:=Ex EB.u (fun i hi=>by obtain ⟨z,_,rfl⟩:=List.mem_map.1 hi; have:=z.2; have:=sy.u; omega) GX.u H_;obtain ⟨ya,yo,yc,rfl⟩:=FP.du mP.fp gy aU;have SI:=U mP;have K:=U mP.cU;have KQ:=U (KK.refl (B:=B) (n₀:=w.heap.size) (W:=Wb) mP.cU.size);have Vi:=U H_;have GY:=U gy;have tR:=U hX;have tS:=U (show X<OO.length by have:=RB.u; omega);have OM:=U sB;have fO:=U (show w.heap.size+4<=Wb.heap.size from mP.c5.lt);clear mP H_;have hu:=RC.u X (by rw [tQ.u]; exact hX) hX
  have e1:us[X]?.getD undef=us[X]'(by rw [tQ.u]; exact hX):=by rw [List.getElem?_eq_getElem (by rw [tQ.u]; exact hX)]; rfl
  rw [<- e1] at hu
  dsimp only
  generalize us[X]?.getD undef=u at *;clear e1;obtain ⟨rl,eQ⟩:∃ rl:List (List Nat),Hid (R.getD X []=rl):=⟨_,U rfl⟩;obtain ⟨ol,kX⟩:∃ ol:List Nat,Hid (O.getD X []=ol):=⟨_,U rfl⟩
  have Ia:RR[X]'hX=rl.map Ma.ah:=by
   rw [<- eQ.u]
   have EC:X<R.length:=by rw [dc.u.iN]; exact sB
   have:RR[X]'hX=(R.map (List.map Ma.ah))[X]'(by rw [List.length_map]; exact EC):=by first | (congr 1; done) | (congr 1; exact Ys.u)
   rw [this,List.getElem_map,dO EC]
  have Vj:OO[X]'tS.u=Ma.ah ol:=by
   rw [<- kX.u]
   have Vk:X<O.length:=by rw [dc.u.i_]; exact sB
   have:OO[X]'tS.u=(O.map Ma.ah)[X]'(by rw [List.length_map]; exact Vk):=by first | (congr 1; done) | (congr 1; exact HOO.u)
   rw [this,List.getElem_map,dO Vk]
  rw [Ia] at hu;have G1:=U (show rl.length=ol.length by rw [<- eQ.u,<- kX.u]; exact dc.u.len X sB);have WL:=U (show ol.Pairwise (· < ·) by rw [<- kX.u]; exact dc.u.jB X sB);have Yg:=iz HH.u dc.u sB;rw [kX.u] at Yg;obtain ⟨ua,uc,rfl,-,-,-,Hw⟩:=hu.shape;have Yh:=U Hw;obtain ⟨oa',Va,e2,_,_,_,nR⟩:=HO.u.shape
  injection e2 with e3 _ e5
  subst e3 e5;obtain ⟨ob,oo,rfl,tx,nR⟩:=nR (by have:=tS.u; omega);obtain ⟨yv,OB,Ev⟩:=nR X tS.u;rw [Vj] at Ev;obtain ⟨qa,qc,rfl,-⟩:=Ev.shape;rw [Ma.aB] at Ev OB;rw [List.length_map];have CO:=U (CL.mk OB tx);have IO:=U Ev;obtain ⟨q,hq⟩:∃ q:Nat,Hid (ap y X=q):=⟨_,U rfl⟩;have CX:=U (show CL Wb ya (yo+X) (.int .i64 ((q:Nat):Int)) by rw [<- hq.u]; exact CL.mk (SI.u.fp.ap GY.u sB).cell (SI.u.fp.ap GY.u sB).lt);clear Hw nR OB Ev tx hu Ia Vj
  by_cases hm:q∈ol
  case neg =>
   skip
   gi_upto_region 5 with fail
   have aj:BE Wb Wb.drew:=(Below.refl _ _).drew;replace SI:=U (SI.u.p aj);replace KQ:=U (KQ.u.p aj);replace CX:=U (CX.u.p aj);replace K:=U (Rg.acc K.u aj);clear aj;refine Rg.Any.vw (hnd:=by kernel_rfl) (S:=Rg.aK 14 (fun W=>Below Wb.drew.heap.size Wb.drew W) (fun W=>BE w W)) mix ?_;generalize Wb.drew=fj at *;have hS:∀ (l:Array Bool) W,BE fj W->BE w W->Rg.aK 14 (fun W=>BE fj W) (fun W=>BE w W) l W:=fun l W h h2=>⟨.inr h,h2⟩;have cF:∀ (l:Array Bool) W,l.getD 14 false=true->BE w W->Rg.aK 14 (fun W=>BE fj W) (fun W=>BE w W) l W:=fun l W h h2=>⟨.inl h,h2⟩;have hI:=K.u;refine d7 0 14 (.pointer (some ⟨w.heap.size,1,none⟩)) 17 rfl rfl (j3 fun w=>aw _ rfl rfl (cp _ _)) (hS _ _ (Below.refl _ _) hI)<|j0 1 14 (.slice (some ⟨ob,oo,none⟩) OO.length oc) 18 rfl rfl (j2 ⟨w.heap.size,1,none⟩ (fun W hW=>Rg.ae _ _ Tryz.underlying22 ((Below.cell (p:=⟨w.heap.size,1,none⟩) hW SI.u.a1.lt).trans SI.u.a1.cell))) (hS _ _ (Below.refl _ _) hI)<|d7 2 14 (.int .i64 (X:Int)) 19 rfl rfl (j3 fun w=>Rg.bQ (v:=.int .i64 (X:Int)) _ rfl rfl) (hS _ _ (Below.refl _ _) hI)<|d7 3 14 (.pointer (some ⟨ob,oo+X,none⟩)) 20 rfl rfl (Rg.ai bM _ _ rfl rfl ob (oo) (OO.length) oc (X) rfl rfl tS.u) (hS _ _ (Below.refl _ _) hI)<|d7 4 14 (.slice qa ol.length qc) 21 rfl rfl (j2 ⟨ob,oo+X,none⟩ (fun W hW=>Rg.ae _ _ Tryz.underlying26 ((Below.cell (p:=⟨ob,oo+X,none⟩) hW CO.u.lt).trans CO.u.cell))) (hS _ _ (Below.refl _ _) hI) ?_;go_frame;refine j0 5 14 (.slice (some ⟨ya,yo,none⟩) n yc) 22 rfl rfl (j2 ⟨(w.heap.size+1),0,none⟩ (fun W hW=>Rg.ae _ _ Tryz.underlying27 ((Below.cell (p:=⟨(w.heap.size+1),0,none⟩) hW SI.u.cx.lt).trans SI.u.cx.c))) (hS _ _ (Below.refl _ _) hI)<|d7 6 14 (.int .i64 (X:Int)) 23 rfl rfl (j3 fun w=>Rg.bQ (v:=.int .i64 (X:Int)) _ rfl rfl) (hS _ _ (Below.refl _ _) hI)<|d7 7 14 (.pointer (some ⟨ya,yo+X,none⟩)) 24 rfl rfl (Rg.ai bC _ _ rfl rfl ya (yo) (n) yc (X) rfl rfl OM.u) (hS _ _ (Below.refl _ _) hI)<|j0 8 14 (.int .i64 (q:Int)) 25 rfl rfl (j2 ⟨ya,yo+X,none⟩ (fun W hW=>af ((Below.cell (p:=⟨ya,yo+X,none⟩) hW CX.u.lt).trans CX.u.cell))) (hS _ _ (Below.refl _ _) hI) ?_;go_frame
   refine Rg.Any.one (i:=9) (by kernel_rfl) (Rg.Any.ask (some 26) rfl rfl rfl _ _ (ax 112 _ _ _ rfl rfl rfl (KM _ _)) ?_);refine (Vg (IO.u.p hI) WL.u (by omega) hm).mono ?_;rintro e1 lQ ⟨kk,rfl,hb⟩;have br:=Rg.acc hI hb;have dH:=hb;clear hb hI;refine ⟨_,rfl,(hS _ _ dH br),?_⟩;go_frame;refine d7 10 14 (.tuple #[.int .i64 kk,.bool false]) 16 rfl rfl (j3 fun w=>Rg.bQ (v:=.tuple #[.int .i64 kk,.bool false]) _ rfl rfl) (hS _ _ dH br)<|d7 11 14 (.int .i64 kk) 27 rfl rfl (j3 fun w=>bU (v:=.int .i64 kk) _ _ rfl rfl rfl) (hS _ _ dH br)<|d7 12 14 (.bool false) 28 rfl rfl (j3 fun w=>bU (v:=.bool false) _ _ rfl rfl rfl) (hS _ _ dH br)<|d7 13 14 (.int .i64 kk) 8 rfl rfl (j3 fun w=>Rg.cD (v:=.int .i64 kk) _ rfl rfl) (hS _ _ dH br)<|j1 14 9 rfl rfl (b6 (.bool false) _ rfl rfl) (cF _ _ rfl br) ?_;go_frame;refine Rg.Any.done (by kernel_rfl) ?_ _;refine Rg.oL ?_;replace SI:=U (SI.u.p dH);replace KQ:=U (KQ.u.p dH);replace CX:=U (CX.u.p dH);replace K:=U br;clear cF;clear hS br dH
   gi_upto_region 6 with fail
   refine wpIn_region_list ?_;refine Rg.aH (some 29) rfl rfl (fun _ hh=>by cases hh) (b5 (.bool false) _ rfl rfl) ?_;go_frame;refine Rg.aH (some 30) rfl rfl (fun _ hh=>by cases hh) (bw _ _ false rfl rfl) ?_;go_frame
   gi_upto_region 7 with fail
   refine wpIn_region_list ?_;refine Rg.aH (some 31) rfl rfl (fun _ hh=>by cases hh) (g7 (.slice (some ⟨ya,yo,none⟩) n yc) ⟨(w.heap.size+1),0,none⟩ (Rg.ae _ _ Tryz.underlying27 SI.u.cx.c)) ?_;go_frame;refine Rg.aH (some 32) rfl rfl (fun _ hh=>by cases hh) (b5 (.int .i64 (X:Int)) _ rfl rfl) ?_;go_frame;refine Rg.iy none rfl rfl (fun _ hh=>by cases hh) (Rg.ak _ _ _ rfl _ rfl _ rfl (Rg.bz _ cX SI.u.c4.c SI.u.c4.f)) ?_;go_frame;refine Rg.iy none rfl rfl (fun _ hh=>by cases hh) (Rg.ak _ _ _ rfl _ rfl _ rfl (dS _ (SI.u.c5.other _ (by omega)).c (SI.u.c5.other _ (by omega)).f)) ?_;go_frame;have R4:=SI.u.stop X;have oI:=(KQ.u.set (b:=w.heap.size+2) (o:=0) (.slice (some ⟨ya,yo,none⟩) n yc) (by omega)).set (b:=w.heap.size+3) (o:=0) (.int .i64 (X:Int)) (by omega);generalize (lQ.setCell ⟨w.heap.size+2,0,none⟩ (.slice (some ⟨ya,yo,none⟩) n yc)).setCell ⟨w.heap.size+3,0,none⟩ (.int .i64 (X:Int))=dB at *;have SS:=U R4;have QX:=U oI;have HTN:=U (show oO O R X (ap y X)=none from OG (by rw [kX.u,hq.u]; exact hm));have SX:=U (show SfX w (oO O R) x (pre++[⟨X,tR.u⟩]) dB from ⟨pre,⟨X,tR.u⟩,_,y,rfl,SS.u,Vi.u,HTN.u⟩);clear R4 oI
   gi_wp2
   exact ⟨QX.u.keeps,rfl,SX.u⟩
  case pos =>
   obtain ⟨k,hk⟩:∃ k:Nat,Hid (ol.idxOf q=k):=⟨_,U rfl⟩
   have b_:k<ol.length:=by rw [<- hk.u]; exact List.idxOf_lt_length_of_mem hm
   have Vl:k<rl.length:=by have:=G1.u; omega
   have HKR:=U Vl;obtain ⟨ub,uo,rfl,oN,sA⟩:=Yh.u (by rw [List.length_map]; omega);obtain ⟨sv,hsc,mP⟩:=sA k (by rw [List.length_map]; exact Vl);obtain ⟨s,hs⟩:∃ s:List Nat,Hid (rl[k]'Vl=s):=⟨_,U rfl⟩
   have tU:Rg.NP w sv s:=by rw [<- hs.u]; rw [List.getElem_map] at mP; exact mP
   have HTS:=U (show oO O R X (ap y X)=some s by
    rw [hq.u];have e:=xf (R:=R) (show q∈O.getD X [] by rw [kX.u]; exact hm)
    rw [e,kX.u,hk.u,eQ.u,<- hs.u,List.getD_eq_getElem?_getD,List.getElem?_eq_getElem Vl]; rfl)
   have GS:=U (EB.u X _ s sB HTS.u);obtain ⟨sa,so,sc,rfl⟩:=(FP.zx tU).du GS.u aU;have CS:=U (CL.mk hsc oN);have NS:=U (show Rg.Ints w _ (Ma.ah s) from tU);clear sA hsc mP tU oN
   gi_upto_region 5 with fail
   have aj:BE Wb Wb.drew:=(Below.refl _ _).drew;replace SI:=U (SI.u.p aj);replace KQ:=U (KQ.u.p aj);replace CX:=U (CX.u.p aj);replace K:=U (Rg.acc K.u aj);clear aj;refine Rg.Any.vw (hnd:=by kernel_rfl) (S:=Rg.aK 14 (fun W=>Below Wb.drew.heap.size Wb.drew W) (fun W=>BE w W)) mix ?_;generalize Wb.drew=fj at *;have hS:∀ (l:Array Bool) W,BE fj W->BE w W->Rg.aK 14 (fun W=>BE fj W) (fun W=>BE w W) l W:=fun l W h h2=>⟨.inr h,h2⟩;have cF:∀ (l:Array Bool) W,l.getD 14 false=true->BE w W->Rg.aK 14 (fun W=>BE fj W) (fun W=>BE w W) l W:=fun l W h h2=>⟨.inl h,h2⟩;have hI:=K.u;refine d7 0 14 (.pointer (some ⟨w.heap.size,1,none⟩)) 17 rfl rfl (j3 fun w=>aw _ rfl rfl (cp _ _)) (hS _ _ (Below.refl _ _) hI)<|j0 1 14 (.slice (some ⟨ob,oo,none⟩) OO.length oc) 18 rfl rfl (j2 ⟨w.heap.size,1,none⟩ (fun W hW=>Rg.ae _ _ Tryz.underlying22 ((Below.cell (p:=⟨w.heap.size,1,none⟩) hW SI.u.a1.lt).trans SI.u.a1.cell))) (hS _ _ (Below.refl _ _) hI)<|d7 2 14 (.int .i64 (X:Int)) 19 rfl rfl (j3 fun w=>Rg.bQ (v:=.int .i64 (X:Int)) _ rfl rfl) (hS _ _ (Below.refl _ _) hI)<|d7 3 14 (.pointer (some ⟨ob,oo+X,none⟩)) 20 rfl rfl (Rg.ai bM _ _ rfl rfl ob (oo) (OO.length) oc (X) rfl rfl tS.u) (hS _ _ (Below.refl _ _) hI)<|d7 4 14 (.slice qa ol.length qc) 21 rfl rfl (j2 ⟨ob,oo+X,none⟩ (fun W hW=>Rg.ae _ _ Tryz.underlying26 ((Below.cell (p:=⟨ob,oo+X,none⟩) hW CO.u.lt).trans CO.u.cell))) (hS _ _ (Below.refl _ _) hI) ?_;go_frame;refine j0 5 14 (.slice (some ⟨ya,yo,none⟩) n yc) 22 rfl rfl (j2 ⟨(w.heap.size+1),0,none⟩ (fun W hW=>Rg.ae _ _ Tryz.underlying27 ((Below.cell (p:=⟨(w.heap.size+1),0,none⟩) hW SI.u.cx.lt).trans SI.u.cx.c))) (hS _ _ (Below.refl _ _) hI)<|d7 6 14 (.int .i64 (X:Int)) 23 rfl rfl (j3 fun w=>Rg.bQ (v:=.int .i64 (X:Int)) _ rfl rfl) (hS _ _ (Below.refl _ _) hI)<|d7 7 14 (.pointer (some ⟨ya,yo+X,none⟩)) 24 rfl rfl (Rg.ai bC _ _ rfl rfl ya (yo) (n) yc (X) rfl rfl OM.u) (hS _ _ (Below.refl _ _) hI)<|j0 8 14 (.int .i64 (q:Int)) 25 rfl rfl (j2 ⟨ya,yo+X,none⟩ (fun W hW=>af ((Below.cell (p:=⟨ya,yo+X,none⟩) hW CX.u.lt).trans CX.u.cell))) (hS _ _ (Below.refl _ _) hI) ?_;go_frame
   refine Rg.Any.one (i:=9) (by kernel_rfl) (Rg.Any.ask (some 26) rfl rfl rfl _ _ (ax 112 _ _ _ rfl rfl rfl (KM _ _)) ?_);refine (R3 (IO.u.p hI) WL.u (by omega) hm hk).mono ?_;rintro e1 lQ ⟨rfl,hb⟩;have bE:=Rg.acc hI hb;have cM:=hb;clear hb hI;refine ⟨_,rfl,(hS _ _ cM bE),?_⟩;go_frame;refine d7 10 14 (.tuple #[.int .i64 (k:Int),.bool true]) 16 rfl rfl (j3 fun w=>Rg.bQ (v:=.tuple #[.int .i64 (k:Int),.bool true]) _ rfl rfl) (hS _ _ cM bE)<|d7 11 14 (.int .i64 (k:Int)) 27 rfl rfl (j3 fun w=>bU (v:=.int .i64 (k:Int)) _ _ rfl rfl rfl) (hS _ _ cM bE)<|d7 12 14 (.bool true) 28 rfl rfl (j3 fun w=>bU (v:=.bool true) _ _ rfl rfl rfl) (hS _ _ cM bE)<|d7 13 14 (.int .i64 (k:Int)) 8 rfl rfl (j3 fun w=>Rg.cD (v:=.int .i64 (k:Int)) _ rfl rfl) (hS _ _ cM bE)<|j1 14 9 rfl rfl (b6 (.bool true) _ rfl rfl) (cF _ _ rfl bE) ?_;go_frame;refine Rg.Any.done (by kernel_rfl) ?_ _;refine Rg.oL ?_;replace SI:=U (SI.u.p cM);replace KQ:=U (KQ.u.p cM);replace CX:=U (CX.u.p cM);replace K:=U bE;clear cF;clear hS bE cM
   gi_upto_region 6 with fail
   refine wpIn_region_list ?_;refine Rg.aH (some 29) rfl rfl (fun _ hh=>by cases hh) (b5 (.bool true) _ rfl rfl) ?_;go_frame;refine Rg.aH (some 30) rfl rfl (fun _ hh=>by cases hh) (bw _ _ true rfl rfl) ?_;go_frame
   gi_upto_region 8 with fail
   have aj:BE lQ lQ.drew:=(Below.refl _ _).drew;replace SI:=U (SI.u.p aj);replace KQ:=U (KQ.u.p aj);replace CX:=U (CX.u.p aj);replace K:=U (Rg.acc K.u aj);clear aj;refine Rg.Any.vw (hnd:=by kernel_rfl) (S:=Rg.aK 7 (fun W=>Below lQ.drew.heap.size lQ.drew W) (fun W=>BE w W)) mix ?_;generalize lQ.drew=yF at *;have hS:∀ (l:Array Bool) W,BE yF W->BE w W->Rg.aK 7 (fun W=>BE yF W) (fun W=>BE w W) l W:=fun l W h h2=>⟨.inr h,h2⟩;have cF:∀ (l:Array Bool) W,l.getD 7 false=true->BE w W->Rg.aK 7 (fun W=>BE yF W) (fun W=>BE w W) l W:=fun l W h h2=>⟨.inl h,h2⟩;have hI:=K.u;refine j0 0 7 (.slice (some ⟨ya,yo,none⟩) n yc) 33 rfl rfl (j2 ⟨(w.heap.size+1),0,none⟩ (fun W hW=>Rg.ae _ _ Tryz.underlying27 ((Below.cell (p:=⟨(w.heap.size+1),0,none⟩) hW SI.u.cx.lt).trans SI.u.cx.c))) (hS _ _ (Below.refl _ _) hI)<|d7 1 7 (.slice (some ⟨ub,uo,none⟩) rl.length uc) 34 rfl rfl (j3 fun w=>Rg.bQ (v:=.slice (some ⟨ub,uo,none⟩) rl.length uc) _ rfl rfl) (hS _ _ (Below.refl _ _) hI)<|d7 2 7 (.int .i64 (k:Int)) 35 rfl rfl (j3 fun w=>Rg.bQ (v:=.int .i64 (k:Int)) _ rfl rfl) (hS _ _ (Below.refl _ _) hI)<|d7 3 7 (.pointer (some ⟨ub,uo+k,none⟩)) 36 rfl rfl (Rg.ai aM _ _ rfl rfl ub (uo) (rl.length) uc (k) rfl rfl HKR.u) (hS _ _ (Below.refl _ _) hI)<|d7 4 7 (.slice (some ⟨sa,so,none⟩) n sc) 37 rfl rfl (j2 ⟨ub,uo+k,none⟩ (fun W hW=>Rg.ae _ _ Tryz.underlying27 ((Below.cell (p:=⟨ub,uo+k,none⟩) hW CS.u.lt).trans CS.u.cell))) (hS _ _ (Below.refl _ _) hI) ?_;go_frame;refine Rg.Any.one (i:=5) (by kernel_rfl) (Rg.Any.ask (some 38) rfl rfl rfl _ _ (aA 118 _ _ rfl rfl (Qa _ _)) ?_);refine (zn _ s yF (NS.u.p hI) GS.u.1 (by rw [GS.u.2]; omega) (by rw [GS.u.2]; exact aU)).mono ?_;rintro e1 Vm ⟨iv,rfl,p8,hb⟩;replace p8:Rg.Ints _ iv (Ma.ah (Ma.bf s)):=p8.1;have gR:=Rg.acc hI hb;have cG:=hb;clear hb hI;refine ⟨_,rfl,(hS _ _ cG gR),?_⟩;go_frame;have IV:=U p8;have HZ:=U (show w.heap.size+4<=Vm.heap.size from (SI.u.p cG).c5.lt);refine Rg.Any.one (i:=6) (by kernel_rfl) (Rg.Any.ask (some 39) rfl rfl rfl _ _ (ax 117 _ _ _ rfl rfl rfl (zr _ _)) ?_);refine (zm _ _ y (Ma.bf s) Vm (SI.u.p cG).fp.np IV.u (fun z hz=>by rw [(Cm.aX GS.u).2]; exact yX GY.u hz) (by rw [GY.u.2]; omega) (by rw [GY.u.2]; exact aU) (by rw [(Cm.aX GS.u).2]; exact aU)).mono ?_
   rintro e1 w45 ⟨mv,rfl,gX,hb⟩;have hmf:=Vf HZ.u gX;obtain ⟨ma,mo,mc,rfl⟩:=hmf.du (Cm.bm GY.u (Cm.aX GS.u)) aU;clear gX;have nU:=Rg.acc cG hb;have qX:=Rg.acc gR hb;have iT:=hb;clear hb cG gR;refine ⟨_,rfl,(hS _ _ nU qX),?_⟩;go_frame;have MV:=U hmf;have Yu:=U (SI.u.p nU);have KQ9:=U (KQ.u.p nU);have MV9:=U MV.u;have KP:=qX.setCell (p:=⟨w.heap.size+1,0,none⟩) (by show w.heap.size<=w.heap.size+1; omega) (.slice (some ⟨ma,mo,none⟩) n mc);refine Rg.Any.one (i:=7) (by kernel_rfl) (Rg.Any.dx none rfl rfl rfl (Rg.ak _ _ _ rfl _ rfl _ rfl (Rg.bz _ cX Yu.u.cx.c Yu.u.cx.f)) (cF _ _ rfl KP) ?_);go_frame;clear nU qX iT;clear SI;clear KQ;clear CX;clear IV;clear MV;refine Rg.Any.done (by kernel_rfl) ?_ _;refine Rg.oL ?_;replace K:=U KP;clear cF;clear hS KP;have WM:=Yu.u.set MV9.u;have oI:=KQ9.u.set (b:=w.heap.size+1) (o:=0) (.slice (some ⟨ma,mo,none⟩) n mc) (by omega);generalize w45.setCell ⟨w.heap.size+1,0,none⟩ (.slice (some ⟨ma,mo,none⟩) n mc)=RE at *;have SI2:=U WM;have QX:=U oI
   have aaV:=U (show nT (oO O R) ((pre++[(⟨X,tR.u⟩:Fin RR.length)]).map fun z=>z.1) x=some (Ma.aq y (Ma.bf s)) by
    rw [List.map_append]
    exact Df _ _ _ _ Vi.u HTS.u)
   clear WM oI
   gi_wp2
   exact ⟨QX.u.keeps,QX.u.cU,_,_,SI2.u,aaV.u⟩
 case stop =>
  rintro D c k W hD hk ⟨rfl,xE,X,yv,y,h1,h2,h3,h4⟩ hd;obtain ⟨rfl,rfl⟩:=EA hk h1;rw [mB (by omega)] at h3;go_wp2;exact Dg (ds:=[D]) h2.cU h2.c4 h2.c5 h2.fp (OI (by have:=X.2; have:=sy.u; omega) h3 h4) rfl rfl (by simp) (fun D' iR=>by simp at iR; subst iR; exact ⟨hd,by have:=jS.u; omega⟩)
 case done =>
  rintro D Wd hD ⟨yv,y,mP,H_⟩ hd;rw [mB (Nat.le_refl _),sy.u] at H_;have gy:Gd n y:=Ex EB.u (fun i hi=>List.mem_range.1 hi) GX.u H_;obtain ⟨ya,yo,yc,rfl⟩:=FP.du mP.fp gy aU;have Vi:=U H_;have HD:=U (show w.heap.size<=D by have:=jS.u; omega);clear FB Aa SI K H_;have SI:=U mP;have DF:=U hd;have K:=U mP.cU;clear mP hd;go_upto_region 9 with fail;have d_:BE Wd Wd.drew:=(Below.refl _ _).drew;replace SI:=U (SI.u.p d_);replace DF:=U (DF.u.p d_);clear d_;refine Rg.Da ?_;have aj:BE Wd Wd.drew:=(Below.refl _ _).drew;generalize cE (fun _:Nat=>True) Wd Wd.drew=F1 at *;clear aj;refine Rg.Any.begin (S:=Rg.aK 4 (fun W:World=>W.cell? ⟨w.heap.size,0,none⟩=some (.int .i64 (n:Int))/\W.cell? ⟨w.heap.size+1,0,none⟩=some (.slice (some ⟨ya,yo,none⟩) n yc)) (fun _=>True)) mix ?_;generalize Wd.drew=WN at *;have hS:∀ (l:Array Bool) W,(fun W:World=>W.cell? ⟨w.heap.size,0,none⟩=some (.int .i64 (n:Int))/\W.cell? ⟨w.heap.size+1,0,none⟩=some (.slice (some ⟨ya,yo,none⟩) n yc)) W->Rg.aK 4 (fun W:World=>W.cell? ⟨w.heap.size,0,none⟩=some (.int .i64 (n:Int))/\W.cell? ⟨w.heap.size+1,0,none⟩=some (.slice (some ⟨ya,yo,none⟩) n yc)) (fun _=>True) l W:=fun l W h=>⟨.inr h,trivial⟩;have cF:∀ (l:Array Bool) W,l.getD 4 false=true->Rg.aK 4 (fun W:World=>W.cell? ⟨w.heap.size,0,none⟩=some (.int .i64 (n:Int))/\W.cell? ⟨w.heap.size+1,0,none⟩=some (.slice (some ⟨ya,yo,none⟩) n yc)) (fun _=>True) l W:=fun l W h=>⟨.inl h,trivial⟩;have hI:(fun W:World=>W.cell? ⟨w.heap.size,0,none⟩=some (.int .i64 (n:Int))/\W.cell? ⟨w.heap.size+1,0,none⟩=some (.slice (some ⟨ya,yo,none⟩) n yc)) WN:=⟨SI.u.a0.cell,SI.u.cx.c⟩
  refine j0 0 4 (.slice (some ⟨ya,yo,none⟩) n yc) 40 rfl rfl (j2 ⟨(w.heap.size+1),0,none⟩ (fun W hW=>Rg.ae _ _ Tryz.underlying27 hW.2)) (hS _ _ hI)<|d7 1 4 (.pointer (some ⟨w.heap.size,0,none⟩)) 41 rfl rfl (j3 fun w=>aw _ rfl rfl (cT _ _)) (hS _ _ hI)<|j0 2 4 (.int .i64 (n:Int)) 42 rfl rfl (j2 ⟨w.heap.size,0,none⟩ (fun W hW=>af hW.1)) (hS _ _ hI) ?_;go_frame;have R6:=(show _/\_ from ⟨(SI.u.a0.other (o:=0) (b':=w.heap.size+2) (.slice (some ⟨ya,yo,none⟩) n yc) (by omega)).cell,(SI.u.cx.other (o:=0) (b':=w.heap.size+2) (.slice (some ⟨ya,yo,none⟩) n yc) (by omega)).c⟩);refine Rg.Any.one (i:=3) (by kernel_rfl) (Rg.Any.dx none rfl rfl rfl (Rg.ak _ _ _ rfl _ rfl _ rfl (Rg.bz _ cX SI.u.c4.c SI.u.c4.f)) (hS _ _ R6) ?_);go_frame;refine Rg.Any.one (i:=4) (by kernel_rfl) (Rg.Any.dx none rfl rfl rfl (Rg.ak _ _ _ rfl _ rfl _ rfl (dS _ (SI.u.c5.other _ (by omega)).c (SI.u.c5.other _ (by omega)).f)) (cF _ _ rfl) ?_);go_frame;refine Rg.Any.done (by kernel_rfl) ?_ _;refine Rg.oL ?_;clear cF;clear hS R6;have R4:=SI.u.stop n;have hdd:=(RF.fq.setCell DF.u ⟨w.heap.size+2,0,none⟩ (.slice (some ⟨ya,yo,none⟩) n yc)).setCell ⟨w.heap.size+3,0,none⟩ (.int .i64 (n:Int));generalize (WN.setCell ⟨w.heap.size+2,0,none⟩ (.slice (some ⟨ya,yo,none⟩) n yc)).setCell ⟨w.heap.size+3,0,none⟩ (.int .i64 (n:Int))=abK at *;have SS:=U R4;have DX:=U hdd;clear R4 hdd;go_wp2;exact Dg (ds:=[D]) SS.u.cU SS.u.c4 SS.u.c5 SS.u.fp (OJ Vi.u) rfl rfl (by simp) (fun D' iR=>by simp at iR; subst iR; exact ⟨DX.u,HD.u⟩)
end
section
open Go.Proofs.Cm (Gr Gd ar cz St Tr ap dn lO)
open Classical in
noncomputable def bI (n:Int) (OO:List (List Int)) (RR:List (List (List Int))):Int:=if 1<=n/\n<=64 then (if fF n OO RR then 0 else 3) else 2
theorem Dh {n:Int}:pE n OO RR (bI n OO RR):=by
 unfold bI
 by_cases h:1<=n/\n<=64
 ·rw [if_pos h]
  by_cases h2:fF n OO RR
  ·rw [if_pos h2]; exact .inr ⟨h,.inl ⟨h2,rfl⟩⟩
  ·rw [if_neg h2]; exact .inr ⟨h,.inr ⟨h2,rfl⟩⟩
 ·rw [if_neg h]; exact .inl ⟨h,rfl⟩
theorem Ac {n:Int} {c:Int} (h:pE n OO RR c):c=bI n OO RR:=h.uniq Dh
theorem eU {n:Int} (h:bI n OO RR=0):fF n OO RR:=by
 have:=Dh (n:=n) (OO:=OO) (RR:=RR);rw [h] at this;exact this.zero
theorem pH {n:Int} (h:fF n OO RR):bI n OO RR=0:=(Ac (pE.of h)).symm
noncomputable def iA (n:Int) (OO:List (List Int)) (RR:List (List (List Int))) (xl:List Int):Int :=
 if bI n OO RR=0 then (if Ma.bY xl=0 then (if (xl.length:Int)=n then 0 else 10) else Ma.bY xl) else bI n OO RR
theorem Ad {n:Int} (h:¬ bI n OO RR=0):iA n OO RR xl=bI n OO RR:=if_neg h
theorem x7 {n:Int} (h:bI n OO RR=0) (h2:¬ Ma.bY xl=0):iA n OO RR xl=Ma.bY xl:=by unfold iA; rw [if_pos h,if_neg h2]
theorem Ae {n:Int} (h:bI n OO RR=0) (h2:Ma.bY xl=0) (h3:¬ (xl.length:Int)=n):iA n OO RR xl=10:=by unfold iA; rw [if_pos h,if_pos h2,if_neg h3]
theorem Di {n:Int} (h:bI n OO RR=0) (h2:Ma.bY xl=0) (h3:(xl.length:Int)=n):iA n OO RR xl=0:=by unfold iA; rw [if_pos h,if_pos h2,if_pos h3]
theorem Ib {n:Int} (h:iA n OO RR xl=0):∃ (N:Nat) (O:List (List Nat)) (R:List (List (List Nat))) (x:List Nat),n=((N:Nat):Int)/\1<=N/\N<=64/\OO=O.map Ma.ah/\RR=R.map (List.map Ma.ah)/\ar N (Gr N (·∈R.flatten)) O R/\cz N (Gr N (·∈R.flatten))/\xl=Ma.ah x/\Gd N x:=by
 by_cases h1:bI n OO RR=0
 ·by_cases h2:Ma.bY xl=0
  ·by_cases h3:(xl.length:Int)=n
   ·obtain ⟨N,O,R,rfl,a1,a2,a3,a4,a5,a6⟩:=eU h1
    obtain ⟨x,rfl,hx⟩:=Ma.mf (Ma.jl h2).2.2;rw [Ma.aB] at h3;exact ⟨N,O,R,x,rfl,a1,a2,a3,a4,a5,Gr.dE a6,rfl,hx,by omega⟩
   ·rw [Ae h1 h2 h3] at h; cases h
  ·rw [x7 h1 h2] at h; exact absurd h h2
 ·rw [Ad h1] at h; exact absurd h h1
def mQ (l:List Int):List Nat:=l.map Int.toNat
theorem eC (l:List Nat):mQ (Ma.ah l)=l:=by
 unfold mQ Ma.ah;rw [List.map_map];exact (List.map_congr_left fun x _=>Int.toNat_natCast x).trans (List.map_id _)
theorem mC (l:List (List Nat)):(l.map Ma.ah).map mQ=l:=by
 rw [List.map_map];exact (List.map_congr_left fun x _=>eC x).trans (List.map_id _)
theorem oP (l:List (List (List Nat))):(l.map (List.map Ma.ah)).map (List.map mQ)=l:=by
 rw [List.map_map];exact (List.map_congr_left fun x _=>mC x).trans (List.map_id _)
def Yv (n:Int) (OO:List (List Int)) (RR:List (List (List Int))) (xl:List Int):Nat × List Nat:=BG n.toNat (OO.map mQ) (RR.map (List.map mQ)) (mQ xl)
theorem Vn {x:List Nat}:Yv ((N:Nat):Int) (O.map Ma.ah) (R.map (List.map Ma.ah)) (Ma.ah x)=BG N O R x:=by
 unfold Yv;rw [mC,oP,eC,Int.toNat_natCast]
noncomputable def sC (n:Int) (OO:List (List Int)) (RR:List (List (List Int))) (xl:List Int):Bool :=
 if iA n OO RR xl=0 then decide ((((Yv n OO RR xl).1:Nat):Int)=n) else false
theorem R7 {n:Int} (h:¬ iA n OO RR xl=0):sC n OO RR xl=false:=if_neg h
theorem ML {x:List Nat} (h:iA ((N:Nat):Int) (O.map Ma.ah) (R.map (List.map Ma.ah)) (Ma.ah x)=0):sC ((N:Nat):Int) (O.map Ma.ah) (R.map (List.map Ma.ah)) (Ma.ah x)=decide ((((BG N O R x).1:Nat):Int)=((N:Nat):Int)):=by
 unfold sC; rw [if_pos h,Vn]
noncomputable def qY (n:Int) (OO:List (List Int)) (RR:List (List (List Int))):List (List Int):=if bI n OO RR=0 then RR.flatMap (List.drop 1) else []
end
section
open Go.RowKit
open Go.Proofs.Ob
open Go.Proofs.Cm (Gd)
attribute [local irreducible] Go.Calls Go.wpList
theorem ED (args:Array Value) (w:World):(callFunc 73 args).run Tryz.prog w=.ok (.enter 73 args) w:=by kernel_rfl
theorem Yw (args:Array Value) (w:World):(callFunc 89 args).run Tryz.prog w=.ok (.enter 89 args) w:=by kernel_rfl
theorem Yx (args:Array Value) (w:World):(callFunc 90 args).run Tryz.prog w=.ok (.enter 90 args) w:=by kernel_rfl
theorem pI {n:Int} {w:World} (h:bl w ov rv OO RR) :
  Calls Tryz.prog 73 #[.agg #[.int .i64 n,ov,rv]] w fun e w'=>e=.returned (.int .i64 (bI n OO RR))/\BE w w':=by
 refine (Et h).mono ?_;rintro e w' ⟨c,rfl,h1,h2⟩;exact ⟨by rw [Ac h1],h2⟩
theorem Ic {n:Int} {w:World} (h:bl w ov rv OO RR) (hx:Rg.Ints w xv xl) :
  Calls Tryz.prog 89 #[.agg #[.int .i64 n,ov,rv],xv] w fun e w'=>e=.returned (.int .i64 (iA n OO RR xl))/\BE w w':=by
 obtain ⟨oa,oc,rfl,-⟩:=h.1.shape;obtain ⟨ra,rc,rfl⟩:=h.2.shape;obtain ⟨xa,xc,rfl,-⟩:=hx.shape;have HC:=U h;have HX:=U hx;have K:=U (bi w);clear h hx
 go_enter Tryz.func89,Tryz.ntmps89
 go_upto_region 0 with fail;refine c6 ?_;have aN:=eA w (.int .i64 n) (.slice oa OO.length oc) (.slice ra RR.length rc);refine k8 (Rg.aY _ _ rfl rfl) ?_;go_frame;have hb:=be w (.cells #[.int .i64 n,.slice oa OO.length oc,.slice ra RR.length rc] 25);generalize w.alloc (.cells #[.int .i64 n,.slice oa OO.length oc,.slice ra RR.length rc] 25)=w1 at *;replace HC:=U (HC.u.p hb);replace HX:=U (HX.u.p hb);replace K:=U (Rg.acc K.u hb);clear hb;have A0:=U aN.1;have A1:=U aN.2.1;have A2:=U aN.2.2;clear aN;refine j7 rfl ?_;go_frame;obtain ⟨ck,dI⟩:∃ c,Hid (bI n OO RR=c):=⟨_,U rfl⟩;obtain ⟨pk,gW⟩:∃ c,Hid (Ma.bY xl=c):=⟨_,U rfl⟩;go_upto_region 1 with fail;refine c6<|k8 (g7 ((.agg #[.int .i64 n,.slice oa OO.length oc,.slice ra RR.length rc])) ⟨w.heap.size,0,none⟩ (aC A0.u.cell A1.u.cell A2.u.cell)) ?_;go_frame;refine f4 8 (aA 73 _ _ rfl rfl (ED _ _)) ?_;refine (pI HC.u).mono ?_;rintro e1 w2 ⟨rfl,hb⟩;rw [dI.u];refine ⟨_,rfl,?_⟩;go_frame;replace HC:=U (HC.u.p hb);replace HX:=U (HX.u.p hb);replace A0:=U (A0.u.p hb);replace A1:=U (A1.u.p hb);replace A2:=U (A2.u.p hb);replace K:=U (Rg.acc K.u hb);clear hb;refine j7 rfl ?_;go_frame
 by_cases h0:ck=0
 case neg =>
  skip;go_upto_region 2 with fail;refine c6<|j7 rfl<|k8 (g8 (.bool true) .neq (h:=aE _ (decide_eq_true h0))) ?_;go_frame;go_upto_region 3 with fail;refine c6<|j7 rfl<|j7 rfl ?_;go_frame;go_wp2;go_ret;exact ⟨by rw [Ad (by rw [dI.u]; exact h0),dI.u]; rfl,K.u⟩
 case pos =>
  have HZ:=U (dI.u.trans h0);go_upto_region 2 with fail;refine c6<|j7 rfl<|k8 (g8 (.bool false) .neq (h:=aE _ (decide_eq_false (fun e=>e h0)))) ?_;go_frame;clear h0;go_upto_region 4 with fail;refine c6<|j8 rfl ?_;go_frame;refine f4 13 (aA 68 _ _ rfl rfl (z1 _ _)) ?_;refine (fJ _ _ w2 HX.u).mono ?_;rintro e1 w3 ⟨rfl,hb⟩;rw [gW.u];refine ⟨_,rfl,?_⟩;go_frame;replace HC:=U (HC.u.p hb);replace HX:=U (HX.u.p hb);replace A0:=U (A0.u.p hb);replace A1:=U (A1.u.p hb);replace A2:=U (A2.u.p hb);replace K:=U (Rg.acc K.u hb);clear hb;refine j7 rfl ?_;go_frame
  by_cases h1:pk=0
  case neg =>
   skip;go_upto_region 5 with fail;refine c6<|j7 rfl<|k8 (g8 (.bool true) .neq (h:=aE _ (decide_eq_true h1))) ?_;go_frame;go_upto_region 6 with fail;refine c6<|j7 rfl<|j7 rfl ?_;go_frame;go_wp2;go_ret;exact ⟨by rw [x7 HZ.u (by rw [gW.u]; exact h1),gW.u]; rfl,K.u⟩
  case pos =>
   have HP:=U (gW.u.trans h1);go_upto_region 5 with fail;refine c6<|j7 rfl<|k8 (g8 (.bool false) .neq (h:=aE _ (decide_eq_false (fun e=>e h1)))) ?_;go_frame;clear h1
   by_cases h2:(xl.length:Int)=n
   case neg =>
    skip;go_upto_region 7 with fail;refine c6<|j8 rfl<|k8 (g9 Tryz.underlying27)<|k8 (j4 (cT _ _))<|k8 (g7 (.int .i64 n) ⟨w.heap.size,0,none⟩ (af A0.u.cell)) ?_;go_frame;refine k8 (g8 (.bool true) .neq (h:=aE _ (decide_eq_true h2))) ?_;go_frame;go_upto_region 8 with fail;refine c6<|j7 rfl ?_;go_frame;go_wp2;go_ret;exact ⟨by rw [Ae HZ.u HP.u h2]; rfl,K.u⟩
   case pos =>
    skip;go_upto_region 7 with fail;refine c6<|j8 rfl<|k8 (g9 Tryz.underlying27)<|k8 (j4 (cT _ _))<|k8 (g7 (.int .i64 n) ⟨w.heap.size,0,none⟩ (af A0.u.cell)) ?_;go_frame;refine k8 (g8 (.bool false) .neq (h:=aE _ (decide_eq_false (fun e=>e h2)))) ?_;go_frame;go_upto_region 9 with fail;refine c6<|j7 rfl ?_;go_frame;go_wp2;go_ret;exact ⟨by rw [Di HZ.u HP.u h2]; rfl,K.u⟩
theorem OP {x:List Nat} {w:World} (eI:1<=N) (z8:N<=64) (bT:Cm.ar N (Cm.Gr N (·∈R.flatten)) O R) (hH:Cm.cz N (Cm.Gr N (·∈R.flatten))) (gx:Gd N x) (h:bl w ov rv (O.map Ma.ah) (R.map (List.map Ma.ah))) (hx:Rg.Ints w xv (Ma.ah x)) :
  Calls Tryz.prog 90 #[.agg #[.int .i64 ((N:Nat):Int),ov,rv],xv] w (Ez N O R x w):=KN eI z8 hH bT rfl rfl h hx gx
theorem xh {n:Int} {w:World} (h:bl w ov rv OO RR) (hx:Rg.Ints w xv xl) :
  Calls Tryz.prog 67 #[.agg #[.int .i64 n,ov,rv],xv] w fun e w'=>e=.returned (.tuple #[.bool (sC n OO RR xl),.int .i64 (iA n OO RR xl)])/\BE w w':=by
 obtain ⟨oa,oc,rfl,-⟩:=h.1.shape;obtain ⟨ra,rc,rfl⟩:=h.2.shape;obtain ⟨xa,xc,rfl,-⟩:=hx.shape;have HC:=U h;have HX:=U hx;have K:=U (bi w);clear h hx
 go_enter Tryz.func67,Tryz.ntmps67
 go_upto_region 0 with fail;refine c6 ?_;have aN:=eA w (.int .i64 n) (.slice oa OO.length oc) (.slice ra RR.length rc);refine k8 (Rg.aY _ _ rfl rfl) ?_;go_frame;have hb:=be w (.cells #[.int .i64 n,.slice oa OO.length oc,.slice ra RR.length rc] 25);generalize w.alloc (.cells #[.int .i64 n,.slice oa OO.length oc,.slice ra RR.length rc] 25)=w1 at *;replace HC:=U (HC.u.p hb);replace HX:=U (HX.u.p hb);replace K:=U (Rg.acc K.u hb);clear hb;have A0:=U aN.1;have A1:=U aN.2.1;have A2:=U aN.2.2;clear aN;refine k7 rfl<|j7 rfl ?_;go_frame;obtain ⟨bk,nK⟩:∃ c,Hid (iA n OO RR xl=c):=⟨_,U rfl⟩;go_upto_region 1 with fail;refine c6<|k8 (g7 ((.agg #[.int .i64 n,.slice oa OO.length oc,.slice ra RR.length rc])) ⟨w.heap.size,0,none⟩ (aC A0.u.cell A1.u.cell A2.u.cell))<|j8 rfl ?_;go_frame;refine f4 11 (ax 89 _ _ _ rfl rfl rfl (Yw _ _)) ?_;refine (Ic HC.u HX.u).mono ?_;rintro e1 w2 ⟨rfl,hb⟩;rw [nK.u];refine ⟨_,rfl,?_⟩;go_frame;replace HC:=U (HC.u.p hb);replace HX:=U (HX.u.p hb);replace A0:=U (A0.u.p hb);replace A1:=U (A1.u.p hb);replace A2:=U (A2.u.p hb);replace K:=U (Rg.acc K.u hb);clear hb;refine j7 rfl ?_;go_frame
 by_cases h0:bk=0
 case neg =>
  skip;go_upto_region 2 with fail;refine c6<|j7 rfl<|k8 (g8 (.bool true) .neq (h:=aE _ (decide_eq_true h0))) ?_;go_frame;go_upto_region 3 with fail;refine c6<|j7 rfl<|k7 rfl<|j7 rfl ?_;go_frame;go_wp2;go_ret2;exact ⟨by rw [R7 (by rw [nK.u]; exact h0),nK.u]; rfl,K.u⟩
 case pos =>
  have HZ:=U (nK.u.trans h0);go_upto_region 2 with fail;refine c6<|j7 rfl<|k8 (g8 (.bool false) .neq (h:=aE _ (decide_eq_false (fun e=>e h0)))) ?_;go_frame;obtain ⟨N,O,R,x,rfl,eI,z8,rfl,rfl,bT,hH,rfl,gx⟩:=Ib HZ.u;have dc:=U bT;have HH:=U hH;have GX:=U gx;clear bT hH gx h0;obtain ⟨bb,nA⟩:∃ b,Hid (decide ((((BG N O R x).1:Nat):Int)=((N:Nat):Int))=b):=⟨_,U rfl⟩;go_upto_region 4 with fail;refine c6<|k8 (g7 ((.agg #[.int .i64 (N:Int),.slice oa (O.map Ma.ah).length oc,.slice ra (R.map (List.map Ma.ah)).length rc])) ⟨w.heap.size,0,none⟩ (aC A0.u.cell A1.u.cell A2.u.cell))<|j8 rfl ?_;go_frame;refine f4 18 (ax 90 _ _ _ rfl rfl rfl (Yx _ _)) ?_;refine (OP eI z8 dc.u HH.u GX.u HC.u HX.u).mono ?_;rintro e1 w3 ⟨v1,rfl,qf,hb⟩;refine ⟨_,rfl,?_⟩;go_frame;replace HC:=U (HC.u.p hb);replace HX:=U (HX.u.p hb);replace A0:=U (A0.u.p hb);replace A1:=U (A1.u.p hb);replace A2:=U (A2.u.p hb);replace K:=U (Rg.acc K.u hb);clear hb;refine j6 (.tuple #[v1,.int .i64 (((BG N O R x).1:Nat):Int)]) rfl<|k8 (i9 (v1))<|k8 (i9 (.int .i64 (((BG N O R x).1:Nat):Int)))<|j6 (v1) rfl<|j7 rfl ?_;go_frame;go_upto_region 5 with fail;refine c6<|j7 rfl<|k8 (j4 (cT _ _))<|k8 (g7 (.int .i64 (N:Int)) ⟨w.heap.size,0,none⟩ (af A0.u.cell))<|k8 (g8 (.bool bb) .eql (h:=eM _ nA.u)) ?_;go_frame;refine k7 rfl<|j7 rfl ?_;go_frame;go_wp2;go_ret2;exact ⟨by rw [ML HZ.u,HZ.u,nA.u]; rfl,K.u⟩
end
end Go.Proofs.YtpedbljnhnoohaaGreat
