/- Lemmas and contracts on the way to the statement; no condition of their own beyond those written. -/
import Derived.Test.YtpedbljnhnoohaaGreatXVntoWm
import Derived.RangeFuncWrites
import Derived.RangeFuncNested
import Derived.Sort.CutIn
import Derived.Lib.ConvBytes
import Derived.OrdersIn
import Derived.TacticsIn
import Derived.ChangeKeysEq
import Derived.Laws.Cells
import Derived.Laws.Rows
import Derived.Laws.Tables
import Derived.Deep.WholeRow
import Derived.Deep.LoopGhost
import Derived.Lib.SlicesSearch
set_option linter.unusedVariables false
set_option linter.unusedSimpArgs false
set_option maxRecDepth 100000
set_option maxHeartbeats 8000000
variable {n B N L D tc j tb base tf n₀ bytes:Nat} {v rv ov z v1 xv v2 yv u1 u2 cv tv:Go.Value} {W w' W' X w0:Go.World} {F M F' F0 Fk:Nat->Prop} {ll OO PS:List (List Int)} {O gs A:List (List Nat)} {R:List (List (List Nat))} {RR fQ:List (List (List Int))} {H:List Nat->Prop} {q:List Nat} {d ck:Int} {xs:List Go.Value} {xl l1 l2:List Int}
namespace Go.Proofs.YtpedbljnhnoohaaGreat
open Go.RowKit
open Go.Proofs
section
open Go.Proofs.Cm (Tr dc)
attribute [local irreducible] Go.Calls Go.wpList
theorem PB (args:Array Value) (w:World):(callFunc 66 args).run Tryz.prog w=.ok (.enter 66 args) w:=by kernel_rfl
theorem Je (args:Array Value) (w:World):(callFunc 165 args).run Tryz.prog w=.ok (.enter 165 args) w:=by kernel_rfl
theorem PE (args:Array Value) (w:World):(callFunc 36 args).run Tryz.prog w=.ok (.enter 36 args) w:=by kernel_rfl
theorem gK.up {l:List Int} (h:gK B W v l) (hb:Below W.heap.size W W'):gK B W' v l:=h.p hb
theorem gK.at {a:Option Addr} {m c:Nat} {l:List Nat} (h:gK B W (.slice a m c) (Ma.ah l)) {k:Nat} (hk:k<l.length):∃ g,a=some ⟨g,0,none⟩/\CL W g (0+k) (.int .i64 ((l[k]:Nat):Int)):=by
 obtain ⟨g,c',u,e1,e2,e3,e4⟩:=iP h.own (k:=k) (by rw [Ma.aB]; exact hk)
 injection e1 with e1 _ _
 refine ⟨g,e1,?_,e4⟩;rw [e2,<- e3];simp [Ma.ah,List.getElem?_eq_getElem hk]
theorem Tm {gs:List Nat->Prop} {tr:Tr} (h:dc n gs tr) {i p:Nat} {u:List Nat} (h1:tr i p=some u):i<=p:=by
 have hne:p≠i:=fun e=>by subst e; rw [h.diag] at h1; cases h1
 have hid:Cm.cE n tr i p=some u:=by rw [Cm.cJ hne]; exact h1
 have hi:=(h.lt i p u h1).1;have hp:=(h.lt i p u h1).2;refine Nat.le_of_not_lt fun aw=>hne ?_;have a1:=h.rp.at_ i p u (Nat.zero_le _) hi hid;have a2:=h.rp.fx i p u (Nat.zero_le _) hi hid p aw;exact Cm.kA (h.rp.gd i p u (Nat.zero_le _) hi hid) hp hi (a2.trans a1.symm)
theorem vI {gs:List Nat->Prop} {tr:Tr} (h:dc n gs tr) {i p:Nat} (hi:i<n):p∈oZ n tr i↔∃ u,Cm.cE n tr i p=some u:=by
 unfold oZ;rw [MM]
 constructor
 ·rintro ⟨h1,h2,h3⟩
  by_cases e:p=i
  ·subst e; exact ⟨_,Cm.cS⟩
  ·rw [Cm.cJ e]
   rcases h3 with h3 | h3
   ·exact absurd h3 e
   ·exact Option.isSome_iff_exists.1 h3
 ·rintro ⟨u,hu⟩
  by_cases e:p=i
  ·subst e; exact ⟨hi,Nat.le_refl _,.inl rfl⟩
  ·rw [Cm.cJ e] at hu
   exact ⟨(h.lt i p u hu).2,Tm h hu,.inr (by rw [hu]; rfl)⟩
def Dh (w:World) (n i:Nat) (H:List Nat->Prop) (u:List Nat) (e:Ending) (w':World):Prop:=∃ v y B,e=.returned v/\w.heap.size<=B/\w'.ownsRow B 3 1 v (Ma.ah y).length ((Ma.ah y).map (Value.int .i64))/\Cm.LI H i n u y/\Cm.Gd n y/\Below w.heap.size w w'
theorem Fm (aR:1<=n) (aX:n<=64) {w:World} {tr:Tr} {Rb:Nat->Nat} {V:Nat->Nat->Value} (hT:cg F0 tb tf n w tr Rb V) {gs:List Nat->Prop} (hg:∀ s,gs s->Cm.Gd n s) (Ax:dc n gs tr) (dE:Cm.lJ n (Cm.Gr n gs) (Cm.cE n tr)) {i p:Nat} (hi:i<n) {u:List Nat} (hu:Cm.cE n tr i p=some u) :
  Calls Tryz.prog 166 #[.slice (some ⟨tb,tf,none⟩) n tc,.int .i64 ((i:Nat):Int),.int .i64 ((p:Nat):Int)] w (Dh w n i (Cm.Gr n gs) u):=by
 have HT:=U hT;have HH:=U (Cm.Gr.dO hg);have OK:=U Ax;have px:=U dE;have bJ:=U hi;have HU:=U hu;have PF:=U (Ax.rp.gd i p u (Nat.zero_le _) hi hu);have nG:=U (Cm.LI.start (Cm.Gr.dO hg) hi PF.u);have CO:=U (hT.u i hi);have K:=U (KG.refl hT.gI);have KB:=U (Below.refl w.heap.size w)
 have Ip:p<n:=by
  by_cases e:p=i
  ·omega
  ·rw [Cm.cJ e] at hu; exact (Ax.lt i p u hu).2
 have MO:=U Ip;have CE:=U (CL.mk (show w.cell? ⟨Rb i,0+p,none⟩=some (V i p) by rw [Nat.zero_add]; exact hT.cell hi Ip) (hT.lt hi));clear hT hg Ax dE hu
 go_enter Tryz.func166,Tryz.ntmps166
 go_upto_region 1 with fail
 refine b6<|j7 rfl<|k5 (g9 Tryz.underlying180) ?_;go_frame
 refine f3 14 (ax 66 _ _ rfl rfl (PB _ _)) ?_;refine (wF n w (by omega)).mono ?_;rintro e1 w1 ⟨ov,rfl,tX,hb⟩;replace KB:=U (Rg.acc KB.u hb);refine ⟨_,rfl,?_⟩;go_frame;replace HT:=U (HT.u.up hb);replace CO:=U (CO.u.up hb);replace CE:=U (CE.u.up hb);replace K:=U (K.u.up hb);have XO:=U (FP.new (F:=F0) tX);generalize cB F0 w w1=F1 at *;clear hb;refine j5 (ov) rfl ?_;go_frame;clear tX
 by_cases Tn:p=i
 ·have Z4:(p:Int)=(i:Int):=by omega
  have XV:=U (show FP F1 w1 ov u by
   have:=HU.u;subst Tn;rw [Cm.cS] at this
   injection this with this
   rw [<- this]; exact XO.u)
  clear Tn XO CO CE;go_upto_region 2 with fail
  refine b6<|j6 rfl<|j6 rfl<|k5 (g8 (.bool false) .neq (h:=az _ f8)) ?_;go_frame
  go_wp2
  go_loopw [8,7] (fun kv yv wr=>∃ (k:Nat) (y:List Nat) (F1:Nat->Prop),kv=.int .i64 k/\i<k/\k<=n/\Hid (FP F1 wr yv y)/\Hid (cg F1 tb tf n wr tr Rb V)/\Hid (KG F0 w F1 wr)/\Hid (Below w.heap.size w wr)/\Hid (Cm.Gd n y)/\Hid (Cm.LI (Cm.Gr n gs) i k u y)) (fun kv _ _=>n - (intOf kv).toNat)
  case atStart=>exact ⟨i+1,u,_,by go_num,Nat.lt_succ_self _,bJ.u,XV,HT,K,KB,PF,nG⟩
  case round =>
   clear XV HT K KB nG;obtain ⟨k,y,F,rfl,fY,dy,X,HT,K,KB,GY,nG⟩:=hrel;obtain ⟨yb,yo,yc,rfl⟩:=X.u.dp GY.u aR
   by_cases bZ:k<n
   ·have iC:(k:Int)<(n:Int):=by omega
    have a_:=U bZ;go_upto_region 7 with fail
    refine b6<|j7 rfl<|j6 rfl ?_;go_frame
    refine f3 35 (aC 165 _ _ _ rfl rfl rfl (Je _ _)) ?_;refine (sw aR aX HT.u (fun i p u e=>ik OK.u e) a_.u).mono ?_;rintro e1 w1 ⟨Jf,rfl,tX,hb⟩;replace KB:=U (Rg.acc KB.u hb);refine ⟨_,rfl,?_⟩;go_frame;replace HT:=U (HT.u.up hb);replace X:=U (X.u.up hb);replace K:=U (K.u.up hb);have RO:=U tX;generalize cB F wr w1=F1 at *;clear hb;refine j5 (Jf) rfl ?_;go_frame;clear tX;obtain ⟨oa,oc,dz⟩:=RO.u.shape;rw [Ma.aB] at dz;subst dz;have Jg:=U (fun q=>vI (p:=q) OK.u a_.u);have tS:=U (qQ tr k n);obtain ⟨O,hO⟩:∃ O,Hid (oZ n tr k=O):=⟨_,U rfl⟩;have Jh:=tS.u;rw [show dW tr k n=O from hO.u] at Jh;replace tS:=U Jh;rw [hO.u] at RO Jg ⊢;obtain ⟨B9,Fj⟩:∃ B,Hid (wr.heap.size=B):=⟨_,U rfl⟩;rw [Fj.u] at RO;clear Jh hO Fj;have kY:=U (show ∀ m (h:m<O.length),m<0->Cm.ap y k<=Cm.ap y O[m] from fun m _ h=>absurd h (Nat.not_lt_zero _))
    have nH:=U (show ∃ v,Cm.cE n tr k k=some v from ⟨_,Cm.cS⟩);go_wp2
    go_loopw [10,11] (fun bv iv wr=>∃ (b m:Nat) (F1:Nat->Prop),bv=.int .i64 b/\iv=.int .i64 m/\m<=O.length/\b<n/\Hid (FP F1 wr (.slice (some ⟨yb,yo,none⟩) n yc) y)/\Hid (cg F1 tb tf n wr tr Rb V)/\Hid (gK B9 wr (.slice oa O.length oc) (Ma.ah O))/\Hid (KG F0 w F1 wr)/\Hid (Below w.heap.size w wr)/\Hid (∃ v,Cm.cE n tr k b=some v)/\Hid (∀ m' (h:m' < O.length),m' < m->Cm.ap y b<=Cm.ap y O[m'])) (fun _ iv _=>O.length - (intOf iv).toNat)
    case atStart=>exact ⟨k,0,_,rfl,rfl,Nat.zero_le _,a_.u,X,HT,RO,K,KB,nH,kY⟩
    case round =>
     clear X HT RO K KB nH kY;obtain ⟨b,m,F,rfl,rfl,hm,py,X,HT,RO,K,KB,nH,kY⟩:=hrel
     have MC:(O.length:Int)<=64:=by have:=tS.u; omega
     by_cases jq:m<O.length
     ·have yy:(m:Int)<(O.length:Int):=by omega
      obtain ⟨og,rfl,Ji⟩:=RO.u.at jq;obtain ⟨q,hq⟩:∃ q:Nat,Hid (q=O[m]):=⟨_,U rfl⟩;rw [<- hq.u] at Ji;have CQ:=U Ji;have fK:=U jq;have yS:=U py;have yz:=U ((Jg.u q).1 (by rw [hq.u]; exact List.getElem_mem jq))
      have fZ:q<n:=by
       obtain ⟨v,hv⟩:=yz.u
       by_cases e:q=k
       ·have:=a_.u; omega
       ·rw [Cm.cJ e] at hv; exact (OK.u.lt k q v hv).2
      have kM:=U fZ;have jC:=U (X.u.ap GY.u fZ);have jD:=U (X.u.ap GY.u py);obtain ⟨yq,yA⟩:∃ z:Nat,Hid (z=Cm.ap y q):=⟨_,U rfl⟩;obtain ⟨pU,yB⟩:∃ z:Nat,Hid (z=Cm.ap y b):=⟨_,U rfl⟩;rw [<- yA.u] at jC;rw [<- yB.u] at jD;clear Ji fZ py hm
      by_cases aw:yq<pU
      ·have E3:(yq:Int)<(pU:Int):=by omega
       go_upto_region 12 with fail;have eF:Below wr.heap.size wr wr.drew:=(Below.refl _ _).drew;replace KB:=U (Rg.acc KB.u eF);clear eF;have aj:Below wr.heap.size wr wr.drew:=(Below.refl _ _).drew;replace HT:=U (HT.u.up aj);replace X:=U (X.u.up aj);replace RO:=U (RO.u.up aj);replace CQ:=U (CQ.u.up aj);replace jC:=U (jC.u.up aj);replace jD:=U (jD.u.up aj);replace K:=U (K.u.up aj);generalize cB F wr wr.drew=F1 at *;clear aj;refine Rg.Any.begin (S:=Rg.aG 11 (fun _=>True) (fun W=>Below wr.drew.heap.size wr.drew W)) mix ?_;generalize wr.drew=w1 at *;have hS:∀ (l:Array Bool) W,Below w1.heap.size w1 W->Rg.aG 11 (fun _=>True) (fun W=>Below w1.heap.size w1 W) l W:=fun l W h=>⟨.inr trivial,h⟩;have hI:Below w1.heap.size w1 w1:=Below.refl _ _
       refine d8 0 11 (.slice (some ⟨yb,yo,none⟩) n yc) 43 (hS _ _ hI)<|d8 1 11 (.slice (some ⟨og,0,none⟩) O.length oc) 44 (hS _ _ hI)<|d8 2 11 (.int .i64 ((m:Nat):Int)) 45 (hS _ _ hI)<|d7 3 11 (.pointer (some ⟨og,0+m,none⟩)) 46 rfl rfl (Rg.ai aO _ _ rfl rfl og (0) (O.length) oc (m) rfl rfl fK.u) (hS _ _ hI)<|d7 4 11 (.int .i64 ((q:Nat):Int)) 47 rfl rfl (i8 ⟨og,0+m,none⟩ (fun W hW=>af ((Below.cell (p:=⟨og,0+m,none⟩) hW CQ.u.lt).trans CQ.u.cell))) (hS _ _ hI) ?_;go_frame
       refine d7 5 11 (.pointer (some ⟨yb,yo+q,none⟩)) 48 rfl rfl (Rg.ai bB _ _ rfl rfl yb (yo) (n) yc (q) rfl rfl kM.u) (hS _ _ hI)<|d7 6 11 (.int .i64 ((yq:Nat):Int)) 49 rfl rfl (i8 ⟨yb,yo+q,none⟩ (fun W hW=>af ((Below.cell (p:=⟨yb,yo+q,none⟩) hW jC.u.lt).trans jC.u.cell))) (hS _ _ hI)<|d8 7 11 (.slice (some ⟨yb,yo,none⟩) n yc) 50 (hS _ _ hI)<|d8 8 11 (.int .i64 ((b:Nat):Int)) 51 (hS _ _ hI)<|d7 9 11 (.pointer (some ⟨yb,yo+b,none⟩)) 52 rfl rfl (Rg.ai bB _ _ rfl rfl yb (yo) (n) yc (b) rfl rfl yS.u) (hS _ _ hI) ?_;go_frame
       refine d7 10 11 (.int .i64 ((pU:Nat):Int)) 53 rfl rfl (i8 ⟨yb,yo+b,none⟩ (fun W hW=>af ((Below.cell (p:=⟨yb,yo+b,none⟩) hW jD.u.lt).trans jD.u.cell))) (hS _ _ hI)<|i7 11 54 rfl rfl (g8 (.bool true) .lss (h:=aH _ f7)) (hS _ _ hI) ?_;go_frame
       refine Rg.Any.done (by kernel_rfl) ?_ _;clear hS hI;go_upto_region 13 with fail
       refine b6<|j7 rfl<|j6 rfl<|k5 (ag aO _ _ rfl og (0) (O.length) oc (m) rfl rfl fK.u)<|k5 (g7 (.int .i64 ((q:Nat):Int)) ⟨og,0+m,none⟩ (af CQ.u.cell)) ?_;go_frame
       refine j6 rfl ?_;go_frame
       have mN:=U (show ∀ m' (h:m' < O.length),m' < m+1->Cm.ap y q<=Cm.ap y O[m'] from fun m' h h2=>by
        have a1:=yA.u;have a2:=yB.u
        by_cases e:m'=m
        ·subst e
         rw [<- hq.u]; omega
        ·have:=kY.u m' h (by omega)
         omega)
       go_wp2
       go_roundw
       case rel=>exact ⟨q,m+1,_,rfl,by go_num,fK.u,kM.u,X,HT,RO,K,KB,yz,mN⟩
       case measure=>simp [intOf]; have:=fK.u; omega
      ·have E3:¬ (yq:Int)<(pU:Int):=by omega
       go_upto_region 12 with fail;have eF:Below wr.heap.size wr wr.drew:=(Below.refl _ _).drew;replace KB:=U (Rg.acc KB.u eF);clear eF;have aj:Below wr.heap.size wr wr.drew:=(Below.refl _ _).drew;replace HT:=U (HT.u.up aj);replace X:=U (X.u.up aj);replace RO:=U (RO.u.up aj);replace CQ:=U (CQ.u.up aj);replace jC:=U (jC.u.up aj);replace jD:=U (jD.u.up aj);replace K:=U (K.u.up aj);generalize cB F wr wr.drew=F1 at *;clear aj;refine Rg.Any.begin (S:=Rg.aG 11 (fun _=>True) (fun W=>Below wr.drew.heap.size wr.drew W)) mix ?_;generalize wr.drew=w1 at *;have hS:∀ (l:Array Bool) W,Below w1.heap.size w1 W->Rg.aG 11 (fun _=>True) (fun W=>Below w1.heap.size w1 W) l W:=fun l W h=>⟨.inr trivial,h⟩;have hI:Below w1.heap.size w1 w1:=Below.refl _ _
       refine d8 0 11 (.slice (some ⟨yb,yo,none⟩) n yc) 43 (hS _ _ hI)<|d8 1 11 (.slice (some ⟨og,0,none⟩) O.length oc) 44 (hS _ _ hI)<|d8 2 11 (.int .i64 ((m:Nat):Int)) 45 (hS _ _ hI)<|d7 3 11 (.pointer (some ⟨og,0+m,none⟩)) 46 rfl rfl (Rg.ai aO _ _ rfl rfl og (0) (O.length) oc (m) rfl rfl fK.u) (hS _ _ hI)<|d7 4 11 (.int .i64 ((q:Nat):Int)) 47 rfl rfl (i8 ⟨og,0+m,none⟩ (fun W hW=>af ((Below.cell (p:=⟨og,0+m,none⟩) hW CQ.u.lt).trans CQ.u.cell))) (hS _ _ hI) ?_;go_frame
       refine d7 5 11 (.pointer (some ⟨yb,yo+q,none⟩)) 48 rfl rfl (Rg.ai bB _ _ rfl rfl yb (yo) (n) yc (q) rfl rfl kM.u) (hS _ _ hI)<|d7 6 11 (.int .i64 ((yq:Nat):Int)) 49 rfl rfl (i8 ⟨yb,yo+q,none⟩ (fun W hW=>af ((Below.cell (p:=⟨yb,yo+q,none⟩) hW jC.u.lt).trans jC.u.cell))) (hS _ _ hI)<|d8 7 11 (.slice (some ⟨yb,yo,none⟩) n yc) 50 (hS _ _ hI)<|d8 8 11 (.int .i64 ((b:Nat):Int)) 51 (hS _ _ hI)<|d7 9 11 (.pointer (some ⟨yb,yo+b,none⟩)) 52 rfl rfl (Rg.ai bB _ _ rfl rfl yb (yo) (n) yc (b) rfl rfl yS.u) (hS _ _ hI) ?_;go_frame
       refine d7 10 11 (.int .i64 ((pU:Nat):Int)) 53 rfl rfl (i8 ⟨yb,yo+b,none⟩ (fun W hW=>af ((Below.cell (p:=⟨yb,yo+b,none⟩) hW jD.u.lt).trans jD.u.cell))) (hS _ _ hI)<|i7 11 54 rfl rfl (g8 (.bool false) .lss (h:=aH _ f8)) (hS _ _ hI) ?_;go_frame
       refine Rg.Any.done (by kernel_rfl) ?_ _;clear hS hI
       have mN:=U (show ∀ m' (h:m' < O.length),m' < m+1->Cm.ap y b<=Cm.ap y O[m'] from fun m' h h2=>by
        have a1:=yA.u;have a2:=yB.u
        by_cases e:m'=m
        ·subst e
         rw [<- hq.u]; omega
        ·have:=kY.u m' h (by omega)
         omega)
       go_wp2
       go_roundw
       case rel=>exact ⟨b,m+1,_,rfl,by go_num,fK.u,yS.u,X,HT,RO,K,KB,nH,mN⟩
       case measure=>simp [intOf]; have:=fK.u; omega
     ·obtain rfl:m=O.length:=by omega
      have yy:¬ (O.length:Int)<(O.length:Int):=by omega
      have wP:=U (show ∀ q',Cm.cE n tr k q'≠none->Cm.ap y b<=Cm.ap y q' from fun q' Ez=>by
       obtain ⟨v,hv⟩:=Option.ne_none_iff_exists'.1 Ez;obtain ⟨m',nA,rfl⟩:=List.getElem_of_mem ((Jg.u q').2 ⟨v,hv⟩)
       exact kY.u m' nA nA)
      obtain ⟨v,hv⟩:=nH.u;have E4:=U (Cm.LI.step HH.u px.u PF.u fY a_.u nG.u hv wP.u);have GV:=U (OK.u.rp.gd k b v (Nat.zero_le _) a_.u hv);have GM:=U (Cm.bf GV.u GY.u);clear wP kY nH
      by_cases mO:b=k
      ·have OI:(b:Int)=(k:Int):=by omega
       have HE:=U (show Ma.ak v y=y by
        subst mO;rw [Cm.cS] at hv
        injection hv with e
        rw [<- e,Cm.one_mul GY.u])
       clear mO hv;go_upto_region 14 with fail
       refine b6<|j6 rfl<|j6 rfl<|k5 (g8 (.bool false) .neq (h:=az _ f8)) ?_;go_frame
       go_wp2
       go_roundw
       case rel=>exact ⟨k+1,y,_,by go_num,by omega,a_.u,X,HT,K,KB,GY,U (by have:=E4.u; rwa [HE.u] at this)⟩
       case measure=>simp [intOf]; have:=a_.u; omega
      ·have OI:¬ (b:Int)=(k:Int):=by omega
       rw [Cm.cJ mO] at hv;have yS:=U py;have UP:=U (HT.u.some_ k b v a_.u py hv);have CO:=U (HT.u.u k a_.u);have CE:=U (CL.mk (show wr.cell? ⟨Rb k,0+b,none⟩=some (V k b) by rw [Nat.zero_add]; exact HT.u.cell a_.u py) (HT.u.lt a_.u));clear mO hv;go_upto_region 14 with fail
       refine b6<|j6 rfl<|j6 rfl<|k5 (g8 (.bool true) .neq (h:=az _ f7)) ?_;go_frame
       go_upto_region 15 with fail
       refine b6<|j7 rfl<|j6 rfl<|k5 (ag fB _ _ rfl tb (tf) (n) tc (k) rfl rfl a_.u)<|k5 (g7 (.slice (some ⟨(Rb k),0,none⟩) n n) ⟨tb,tf+k,none⟩ (Rg.ae _ _ Tryz.underlying41 CO.u.cell)) ?_;go_frame
       refine j6 rfl<|k5 (ag aK _ _ rfl (Rb k) (0) (n) n (b) rfl rfl yS.u)<|k5 (g7 ((V k b)) ⟨(Rb k),0+b,none⟩ (Rg.ae _ _ Tryz.underlying27 CE.u.cell))<|j7 rfl ?_;go_frame
       refine f3 70 (aC 34 _ _ _ rfl rfl rfl (sm _ _)) ?_;refine (qO UP.u X.u GV.u GY.u aX).mono ?_;rintro e1 w1 ⟨mv,rfl,gJ,hb⟩;replace KB:=U (Rg.acc KB.u hb);refine ⟨_,rfl,?_⟩;go_frame;replace HT:=U (HT.u.up hb);replace X:=U (X.u.up hb);replace UP:=U (UP.u.up hb);replace CO:=U (CO.u.up hb);replace CE:=U (CE.u.up hb);replace K:=U (K.u.up hb);have MV:=U gJ;generalize cB F wr w1=F1 at *;clear hb;refine j5 (mv) rfl ?_;go_frame;clear gJ;go_wp2
       go_roundw
       case rel=>exact ⟨k+1,_,_,by go_num,by omega,a_.u,MV,HT,K,KB,GM,E4⟩
       case measure=>simp [intOf]; have:=a_.u; omega
   ·obtain rfl:k=n:=by omega
    have iC:¬ (k:Int)<(k:Int):=by omega
    have sx:=U KB.u.size;go_upto_region 16 with fail
    refine b6<|j7 rfl ?_;go_frame
    refine f3 72 (ax 36 _ _ rfl rfl (PE _ _)) ?_;refine (E6 _ (Ma.ah y) wr X.u.np (by rw [Ma.aB,GY.u.2]; omega)).mono ?_;rintro e1 w1 ⟨v2,rfl,bH,hb⟩;replace KB:=U (Rg.acc KB.u hb);have mh:=U bH;clear bH;refine ⟨_,rfl,?_⟩;go_frame;replace HT:=U (HT.u.up hb);replace X:=U (X.u.up hb);replace K:=U (K.u.up hb);generalize cB F wr w1=F1 at *;clear hb;refine j5 (v2) rfl ?_;go_frame;go_wp2;go_ret;exact (show Dh _ _ _ _ _ _ _ from ⟨_,_,_,rfl,sx.u,mh.u,nG.u,GY.u,KB.u⟩)
 ·have Z4:¬ (p:Int)=(i:Int):=by omega
  have XV:=U (HT.u.some_ i p u bJ.u MO.u (by have:=HU.u; rwa [Cm.cJ Tn] at this));clear Tn XO;go_upto_region 2 with fail
  refine b6<|j6 rfl<|j6 rfl<|k5 (g8 (.bool true) .neq (h:=az _ f7)) ?_;go_frame
  go_upto_region 3 with fail
  refine b6<|j7 rfl<|j6 rfl<|k5 (ag fB _ _ rfl tb (tf) (n) tc (i) rfl rfl bJ.u)<|k5 (g7 (.slice (some ⟨(Rb i),0,none⟩) n n) ⟨tb,tf+i,none⟩ (Rg.ae _ _ Tryz.underlying41 CO.u.cell)) ?_;go_frame
  refine j6 rfl<|k5 (ag aK _ _ rfl (Rb i) (0) (n) n (p) rfl rfl MO.u)<|k5 (g7 ((V i p)) ⟨(Rb i),0+p,none⟩ (Rg.ae _ _ Tryz.underlying27 CE.u.cell))<|j5 ((V i p)) rfl ?_;go_frame
  clear CO CE;go_wp2
  go_loopw [8,7] (fun kv yv wr=>∃ (k:Nat) (y:List Nat) (F1:Nat->Prop),kv=.int .i64 k/\i<k/\k<=n/\Hid (FP F1 wr yv y)/\Hid (cg F1 tb tf n wr tr Rb V)/\Hid (KG F0 w F1 wr)/\Hid (Below w.heap.size w wr)/\Hid (Cm.Gd n y)/\Hid (Cm.LI (Cm.Gr n gs) i k u y)) (fun kv _ _=>n - (intOf kv).toNat)
  case atStart=>exact ⟨i+1,u,_,by go_num,Nat.lt_succ_self _,bJ.u,XV,HT,K,KB,PF,nG⟩
  case round =>
   clear XV HT K KB nG;obtain ⟨k,y,F,rfl,fY,dy,X,HT,K,KB,GY,nG⟩:=hrel;obtain ⟨yb,yo,yc,rfl⟩:=X.u.dp GY.u aR
   by_cases bZ:k<n
   ·have iC:(k:Int)<(n:Int):=by omega
    have a_:=U bZ;go_upto_region 7 with fail
    refine b6<|j7 rfl<|j6 rfl ?_;go_frame
    refine f3 35 (aC 165 _ _ _ rfl rfl rfl (Je _ _)) ?_;refine (sw aR aX HT.u (fun i p u e=>ik OK.u e) a_.u).mono ?_;rintro e1 w1 ⟨Jf,rfl,tX,hb⟩;replace KB:=U (Rg.acc KB.u hb);refine ⟨_,rfl,?_⟩;go_frame;replace HT:=U (HT.u.up hb);replace X:=U (X.u.up hb);replace K:=U (K.u.up hb);have RO:=U tX;generalize cB F wr w1=F1 at *;clear hb;refine j5 (Jf) rfl ?_;go_frame;clear tX;obtain ⟨oa,oc,dz⟩:=RO.u.shape;rw [Ma.aB] at dz;subst dz;have Jg:=U (fun q=>vI (p:=q) OK.u a_.u);have tS:=U (qQ tr k n);obtain ⟨O,hO⟩:∃ O,Hid (oZ n tr k=O):=⟨_,U rfl⟩;have Jh:=tS.u;rw [show dW tr k n=O from hO.u] at Jh;replace tS:=U Jh;rw [hO.u] at RO Jg ⊢;obtain ⟨B9,Fj⟩:∃ B,Hid (wr.heap.size=B):=⟨_,U rfl⟩;rw [Fj.u] at RO;clear Jh hO Fj;have kY:=U (show ∀ m (h:m<O.length),m<0->Cm.ap y k<=Cm.ap y O[m] from fun m _ h=>absurd h (Nat.not_lt_zero _))
    have nH:=U (show ∃ v,Cm.cE n tr k k=some v from ⟨_,Cm.cS⟩);go_wp2
    go_loopw [10,11] (fun bv iv wr=>∃ (b m:Nat) (F1:Nat->Prop),bv=.int .i64 b/\iv=.int .i64 m/\m<=O.length/\b<n/\Hid (FP F1 wr (.slice (some ⟨yb,yo,none⟩) n yc) y)/\Hid (cg F1 tb tf n wr tr Rb V)/\Hid (gK B9 wr (.slice oa O.length oc) (Ma.ah O))/\Hid (KG F0 w F1 wr)/\Hid (Below w.heap.size w wr)/\Hid (∃ v,Cm.cE n tr k b=some v)/\Hid (∀ m' (h:m' < O.length),m' < m->Cm.ap y b<=Cm.ap y O[m'])) (fun _ iv _=>O.length - (intOf iv).toNat)
    case atStart=>exact ⟨k,0,_,rfl,rfl,Nat.zero_le _,a_.u,X,HT,RO,K,KB,nH,kY⟩
    case round =>
     clear X HT RO K KB nH kY;obtain ⟨b,m,F,rfl,rfl,hm,py,X,HT,RO,K,KB,nH,kY⟩:=hrel
     have MC:(O.length:Int)<=64:=by have:=tS.u; omega
     by_cases jq:m<O.length
     ·have yy:(m:Int)<(O.length:Int):=by omega
      obtain ⟨og,rfl,Ji⟩:=RO.u.at jq;obtain ⟨q,hq⟩:∃ q:Nat,Hid (q=O[m]):=⟨_,U rfl⟩;rw [<- hq.u] at Ji;have CQ:=U Ji;have fK:=U jq;have yS:=U py;have yz:=U ((Jg.u q).1 (by rw [hq.u]; exact List.getElem_mem jq))
      have fZ:q<n:=by
       obtain ⟨v,hv⟩:=yz.u
       by_cases e:q=k
       ·have:=a_.u; omega
       ·rw [Cm.cJ e] at hv; exact (OK.u.lt k q v hv).2
      have kM:=U fZ;have jC:=U (X.u.ap GY.u fZ);have jD:=U (X.u.ap GY.u py);obtain ⟨yq,yA⟩:∃ z:Nat,Hid (z=Cm.ap y q):=⟨_,U rfl⟩;obtain ⟨pU,yB⟩:∃ z:Nat,Hid (z=Cm.ap y b):=⟨_,U rfl⟩;rw [<- yA.u] at jC;rw [<- yB.u] at jD;clear Ji fZ py hm
      by_cases aw:yq<pU
      ·have E3:(yq:Int)<(pU:Int):=by omega
       go_upto_region 12 with fail;have eF:Below wr.heap.size wr wr.drew:=(Below.refl _ _).drew;replace KB:=U (Rg.acc KB.u eF);clear eF;have aj:Below wr.heap.size wr wr.drew:=(Below.refl _ _).drew;replace HT:=U (HT.u.up aj);replace X:=U (X.u.up aj);replace RO:=U (RO.u.up aj);replace CQ:=U (CQ.u.up aj);replace jC:=U (jC.u.up aj);replace jD:=U (jD.u.up aj);replace K:=U (K.u.up aj);generalize cB F wr wr.drew=F1 at *;clear aj;refine Rg.Any.begin (S:=Rg.aG 11 (fun _=>True) (fun W=>Below wr.drew.heap.size wr.drew W)) mix ?_;generalize wr.drew=w1 at *;have hS:∀ (l:Array Bool) W,Below w1.heap.size w1 W->Rg.aG 11 (fun _=>True) (fun W=>Below w1.heap.size w1 W) l W:=fun l W h=>⟨.inr trivial,h⟩;have hI:Below w1.heap.size w1 w1:=Below.refl _ _
       refine d8 0 11 (.slice (some ⟨yb,yo,none⟩) n yc) 43 (hS _ _ hI)<|d8 1 11 (.slice (some ⟨og,0,none⟩) O.length oc) 44 (hS _ _ hI)<|d8 2 11 (.int .i64 ((m:Nat):Int)) 45 (hS _ _ hI)<|d7 3 11 (.pointer (some ⟨og,0+m,none⟩)) 46 rfl rfl (Rg.ai aO _ _ rfl rfl og (0) (O.length) oc (m) rfl rfl fK.u) (hS _ _ hI)<|d7 4 11 (.int .i64 ((q:Nat):Int)) 47 rfl rfl (i8 ⟨og,0+m,none⟩ (fun W hW=>af ((Below.cell (p:=⟨og,0+m,none⟩) hW CQ.u.lt).trans CQ.u.cell))) (hS _ _ hI) ?_;go_frame
       refine d7 5 11 (.pointer (some ⟨yb,yo+q,none⟩)) 48 rfl rfl (Rg.ai bB _ _ rfl rfl yb (yo) (n) yc (q) rfl rfl kM.u) (hS _ _ hI)<|d7 6 11 (.int .i64 ((yq:Nat):Int)) 49 rfl rfl (i8 ⟨yb,yo+q,none⟩ (fun W hW=>af ((Below.cell (p:=⟨yb,yo+q,none⟩) hW jC.u.lt).trans jC.u.cell))) (hS _ _ hI)<|d8 7 11 (.slice (some ⟨yb,yo,none⟩) n yc) 50 (hS _ _ hI)<|d8 8 11 (.int .i64 ((b:Nat):Int)) 51 (hS _ _ hI)<|d7 9 11 (.pointer (some ⟨yb,yo+b,none⟩)) 52 rfl rfl (Rg.ai bB _ _ rfl rfl yb (yo) (n) yc (b) rfl rfl yS.u) (hS _ _ hI) ?_;go_frame
       refine d7 10 11 (.int .i64 ((pU:Nat):Int)) 53 rfl rfl (i8 ⟨yb,yo+b,none⟩ (fun W hW=>af ((Below.cell (p:=⟨yb,yo+b,none⟩) hW jD.u.lt).trans jD.u.cell))) (hS _ _ hI)<|i7 11 54 rfl rfl (g8 (.bool true) .lss (h:=aH _ f7)) (hS _ _ hI) ?_;go_frame
       refine Rg.Any.done (by kernel_rfl) ?_ _;clear hS hI;go_upto_region 13 with fail
       refine b6<|j7 rfl<|j6 rfl<|k5 (ag aO _ _ rfl og (0) (O.length) oc (m) rfl rfl fK.u)<|k5 (g7 (.int .i64 ((q:Nat):Int)) ⟨og,0+m,none⟩ (af CQ.u.cell)) ?_;go_frame
       refine j6 rfl ?_;go_frame
       have mN:=U (show ∀ m' (h:m' < O.length),m' < m+1->Cm.ap y q<=Cm.ap y O[m'] from fun m' h h2=>by
        have a1:=yA.u;have a2:=yB.u
        by_cases e:m'=m
        ·subst e
         rw [<- hq.u]; omega
        ·have:=kY.u m' h (by omega)
         omega)
       go_wp2
       go_roundw
       case rel=>exact ⟨q,m+1,_,rfl,by go_num,fK.u,kM.u,X,HT,RO,K,KB,yz,mN⟩
       case measure=>simp [intOf]; have:=fK.u; omega
      ·have E3:¬ (yq:Int)<(pU:Int):=by omega
       go_upto_region 12 with fail;have eF:Below wr.heap.size wr wr.drew:=(Below.refl _ _).drew;replace KB:=U (Rg.acc KB.u eF);clear eF;have aj:Below wr.heap.size wr wr.drew:=(Below.refl _ _).drew;replace HT:=U (HT.u.up aj);replace X:=U (X.u.up aj);replace RO:=U (RO.u.up aj);replace CQ:=U (CQ.u.up aj);replace jC:=U (jC.u.up aj);replace jD:=U (jD.u.up aj);replace K:=U (K.u.up aj);generalize cB F wr wr.drew=F1 at *;clear aj;refine Rg.Any.begin (S:=Rg.aG 11 (fun _=>True) (fun W=>Below wr.drew.heap.size wr.drew W)) mix ?_;generalize wr.drew=w1 at *;have hS:∀ (l:Array Bool) W,Below w1.heap.size w1 W->Rg.aG 11 (fun _=>True) (fun W=>Below w1.heap.size w1 W) l W:=fun l W h=>⟨.inr trivial,h⟩;have hI:Below w1.heap.size w1 w1:=Below.refl _ _
       refine d8 0 11 (.slice (some ⟨yb,yo,none⟩) n yc) 43 (hS _ _ hI)<|d8 1 11 (.slice (some ⟨og,0,none⟩) O.length oc) 44 (hS _ _ hI)<|d8 2 11 (.int .i64 ((m:Nat):Int)) 45 (hS _ _ hI)<|d7 3 11 (.pointer (some ⟨og,0+m,none⟩)) 46 rfl rfl (Rg.ai aO _ _ rfl rfl og (0) (O.length) oc (m) rfl rfl fK.u) (hS _ _ hI)<|d7 4 11 (.int .i64 ((q:Nat):Int)) 47 rfl rfl (i8 ⟨og,0+m,none⟩ (fun W hW=>af ((Below.cell (p:=⟨og,0+m,none⟩) hW CQ.u.lt).trans CQ.u.cell))) (hS _ _ hI) ?_;go_frame
       refine d7 5 11 (.pointer (some ⟨yb,yo+q,none⟩)) 48 rfl rfl (Rg.ai bB _ _ rfl rfl yb (yo) (n) yc (q) rfl rfl kM.u) (hS _ _ hI)<|d7 6 11 (.int .i64 ((yq:Nat):Int)) 49 rfl rfl (i8 ⟨yb,yo+q,none⟩ (fun W hW=>af ((Below.cell (p:=⟨yb,yo+q,none⟩) hW jC.u.lt).trans jC.u.cell))) (hS _ _ hI)<|d8 7 11 (.slice (some ⟨yb,yo,none⟩) n yc) 50 (hS _ _ hI)<|d8 8 11 (.int .i64 ((b:Nat):Int)) 51 (hS _ _ hI)<|d7 9 11 (.pointer (some ⟨yb,yo+b,none⟩)) 52 rfl rfl (Rg.ai bB _ _ rfl rfl yb (yo) (n) yc (b) rfl rfl yS.u) (hS _ _ hI) ?_;go_frame
       refine d7 10 11 (.int .i64 ((pU:Nat):Int)) 53 rfl rfl (i8 ⟨yb,yo+b,none⟩ (fun W hW=>af ((Below.cell (p:=⟨yb,yo+b,none⟩) hW jD.u.lt).trans jD.u.cell))) (hS _ _ hI)<|i7 11 54 rfl rfl (g8 (.bool false) .lss (h:=aH _ f8)) (hS _ _ hI) ?_;go_frame
       refine Rg.Any.done (by kernel_rfl) ?_ _;clear hS hI
       have mN:=U (show ∀ m' (h:m' < O.length),m' < m+1->Cm.ap y b<=Cm.ap y O[m'] from fun m' h h2=>by
        have a1:=yA.u;have a2:=yB.u
        by_cases e:m'=m
        ·subst e
         rw [<- hq.u]; omega
        ·have:=kY.u m' h (by omega)
         omega)
       go_wp2
       go_roundw
       case rel=>exact ⟨b,m+1,_,rfl,by go_num,fK.u,yS.u,X,HT,RO,K,KB,nH,mN⟩
       case measure=>simp [intOf]; have:=fK.u; omega
     ·obtain rfl:m=O.length:=by omega
      have yy:¬ (O.length:Int)<(O.length:Int):=by omega
      have wP:=U (show ∀ q',Cm.cE n tr k q'≠none->Cm.ap y b<=Cm.ap y q' from fun q' Ez=>by
       obtain ⟨v,hv⟩:=Option.ne_none_iff_exists'.1 Ez;obtain ⟨m',nA,rfl⟩:=List.getElem_of_mem ((Jg.u q').2 ⟨v,hv⟩)
       exact kY.u m' nA nA)
      obtain ⟨v,hv⟩:=nH.u;have E4:=U (Cm.LI.step HH.u px.u PF.u fY a_.u nG.u hv wP.u);have GV:=U (OK.u.rp.gd k b v (Nat.zero_le _) a_.u hv);have GM:=U (Cm.bf GV.u GY.u);clear wP kY nH
      by_cases mO:b=k
      ·have OI:(b:Int)=(k:Int):=by omega
       have HE:=U (show Ma.ak v y=y by
        subst mO;rw [Cm.cS] at hv
        injection hv with e
        rw [<- e,Cm.one_mul GY.u])
       clear mO hv;go_upto_region 14 with fail
       refine b6<|j6 rfl<|j6 rfl<|k5 (g8 (.bool false) .neq (h:=az _ f8)) ?_;go_frame
       go_wp2
       go_roundw
       case rel=>exact ⟨k+1,y,_,by go_num,by omega,a_.u,X,HT,K,KB,GY,U (by have:=E4.u; rwa [HE.u] at this)⟩
       case measure=>simp [intOf]; have:=a_.u; omega
      ·have OI:¬ (b:Int)=(k:Int):=by omega
       rw [Cm.cJ mO] at hv;have yS:=U py;have UP:=U (HT.u.some_ k b v a_.u py hv);have CO:=U (HT.u.u k a_.u);have CE:=U (CL.mk (show wr.cell? ⟨Rb k,0+b,none⟩=some (V k b) by rw [Nat.zero_add]; exact HT.u.cell a_.u py) (HT.u.lt a_.u));clear mO hv;go_upto_region 14 with fail
       refine b6<|j6 rfl<|j6 rfl<|k5 (g8 (.bool true) .neq (h:=az _ f7)) ?_;go_frame
       go_upto_region 15 with fail
       refine b6<|j7 rfl<|j6 rfl<|k5 (ag fB _ _ rfl tb (tf) (n) tc (k) rfl rfl a_.u)<|k5 (g7 (.slice (some ⟨(Rb k),0,none⟩) n n) ⟨tb,tf+k,none⟩ (Rg.ae _ _ Tryz.underlying41 CO.u.cell)) ?_;go_frame
       refine j6 rfl<|k5 (ag aK _ _ rfl (Rb k) (0) (n) n (b) rfl rfl yS.u)<|k5 (g7 ((V k b)) ⟨(Rb k),0+b,none⟩ (Rg.ae _ _ Tryz.underlying27 CE.u.cell))<|j7 rfl ?_;go_frame
       refine f3 70 (aC 34 _ _ _ rfl rfl rfl (sm _ _)) ?_;refine (qO UP.u X.u GV.u GY.u aX).mono ?_;rintro e1 w1 ⟨mv,rfl,gJ,hb⟩;replace KB:=U (Rg.acc KB.u hb);refine ⟨_,rfl,?_⟩;go_frame;replace HT:=U (HT.u.up hb);replace X:=U (X.u.up hb);replace UP:=U (UP.u.up hb);replace CO:=U (CO.u.up hb);replace CE:=U (CE.u.up hb);replace K:=U (K.u.up hb);have MV:=U gJ;generalize cB F wr w1=F1 at *;clear hb;refine j5 (mv) rfl ?_;go_frame;clear gJ;go_wp2
       go_roundw
       case rel=>exact ⟨k+1,_,_,by go_num,by omega,a_.u,MV,HT,K,KB,GM,E4⟩
       case measure=>simp [intOf]; have:=a_.u; omega
   ·obtain rfl:k=n:=by omega
    have iC:¬ (k:Int)<(k:Int):=by omega
    have sx:=U KB.u.size;go_upto_region 16 with fail
    refine b6<|j7 rfl ?_;go_frame
    refine f3 72 (ax 36 _ _ rfl rfl (PE _ _)) ?_;refine (E6 _ (Ma.ah y) wr X.u.np (by rw [Ma.aB,GY.u.2]; omega)).mono ?_;rintro e1 w1 ⟨v2,rfl,bH,hb⟩;replace KB:=U (Rg.acc KB.u hb);have mh:=U bH;clear bH;refine ⟨_,rfl,?_⟩;go_frame;replace HT:=U (HT.u.up hb);replace X:=U (X.u.up hb);replace K:=U (K.u.up hb);generalize cB F wr w1=F1 at *;clear hb;refine j5 (v2) rfl ?_;go_frame;go_wp2;go_ret;exact (show Dh _ _ _ _ _ _ _ from ⟨_,_,_,rfl,sx.u,mh.u,nG.u,GY.u,KB.u⟩)

theorem Wo (args:Array Value) (w:World):(callFunc 166 args).run Tryz.prog w=.ok (.enter 166 args) w:=by kernel_rfl
theorem Fo (aR:1<=n) (aX:n<=64) {w:World} {tr:Tr} {Rb:Nat->Nat} {V:Nat->Nat->Value} (hT:cg F tb tf n w tr Rb V) {gs:List Nat->Prop} (hg:∀ s,gs s->Cm.Gd n s) (Ax:dc n gs tr) (dE:Cm.lJ n (Cm.Gr n gs) (Cm.cE n tr)) :
  Calls Tryz.prog 148 #[.slice (some ⟨tb,tf,none⟩) n tc] w fun e w'=>∃ ov rv O R,e=.returned (.agg #[.int .i64 ((n:Nat):Int),ov,rv])/\Rg.aM (fun z=>w.heap.size<=z) w' ov (O.map Ma.ah)/\bs (fun z=>w.heap.size<=z) w' rv (R.map (List.map Ma.ah))/\Cm.ar n (Cm.Gr n gs) O R/\Below w.heap.size w w':=by
 have K:=U (Below.refl w.heap.size w);have HT:=U hT;have pT:=U hg;have HH:=U (Cm.Gr.dO hg);have OK:=U Ax;have px:=U dE;clear hT hg Ax dE
 go_enter Tryz.func148,Tryz.ntmps148
 go_upto_region 0 with fail;refine b6 ?_;have cj:=cD.new w (.int .i64 0) (.slice none 0 0) (.slice none 0 0);refine k5 (bN rfl) ?_;go_frame;have hb:=(Below.refl w.heap.size w).alloc (Nat.le_refl _) (.cells #[.int .i64 0,.slice none 0 0,.slice none 0 0] 25);generalize w.alloc (.cells #[.int .i64 0,.slice none 0 0,.slice none 0 0] 25)=w1 at *;replace HT:=U (HT.u.p hb);replace K:=U (Rg.acc K.u hb);clear hb;have FT:=U cj;have K1:=U (Below.refl w1.heap.size w1);have OZ:=(FT.u.lt);clear cj;go_upto_region 1 with fail
 refine b6<|j7 rfl<|k5 (g9 Tryz.underlying180)<|k5 (rI (d:=((n:Nat):Int)) _ rfl rfl) ?_;go_frame
 have cj:=cD.new w1 (.int .i64 0) (.slice none 0 0) (.slice none 0 0);refine k5 (bN rfl) ?_;go_frame;have hb:=(Below.refl w1.heap.size w1).alloc (Nat.le_refl _) (.cells #[.int .i64 0,.slice none 0 0,.slice none 0 0] 25);generalize w1.alloc (.cells #[.int .i64 0,.slice none 0 0,.slice none 0 0] 25)=w2 at *;replace K1:=U (Rg.acc K1.u hb);clear hb;have FC:=U cj;refine Rg.aL none rfl rfl (Rg.aq _ _ _ rfl _ rfl _ rfl (aV _ _ _ _ _ _ _ FC.u)) ?_;go_frame;clear cj;replace FC:=U (FC.u.set (.int .i64 ((n:Nat):Int)) (.slice none 0 0) (.slice none 0 0));replace K1:=U (((K1.u.setCell (p:=⟨w1.heap.size,0,none⟩) (Nat.le_refl _) (.int .i64 ((n:Nat):Int))).setCell (p:=⟨w1.heap.size,1,none⟩) (Nat.le_refl _) (.slice none 0 0)).setCell (p:=⟨w1.heap.size,2,none⟩) (Nat.le_refl _) (.slice none 0 0));generalize (((w2).setCell ⟨w1.heap.size,0,none⟩ (.int .i64 ((n:Nat):Int))).setCell ⟨w1.heap.size,1,none⟩ (.slice none 0 0)).setCell ⟨w1.heap.size,2,none⟩ (.slice none 0 0)=w5 at *
 have CH:=U (fe.start FC.u (Nat.le_refl _));clear FC;go_upto_region 2 with fail
 refine b6<|j6 rfl ?_;go_frame
 have ou:=U (Cm.PC.nil n (Cm.Gr n gs) (Cm.cE n tr));go_wp2
 go_loopw [4] (fun iv wr=>∃ (k:Nat) (ov rv:Value) (O:List (List Nat)) (R:List (List (List Nat))),iv=.int .i64 k/\k<=n/\Hid (fe w1.heap.size wr w1.heap.size (.int .i64 ((n:Nat):Int)) ov rv ov rv (O.map Ma.ah) (R.map (List.map Ma.ah)))/\Hid (Below w1.heap.size w1 wr)/\Hid (Cm.PC n (Cm.Gr n gs) (Cm.cE n tr) k O R)) (fun iv _=>n - (intOf iv).toNat)
 case atStart=>exact ⟨0,_,_,[],[],rfl,Nat.zero_le _,CH,K1,ou⟩
 case round =>
  clear CH K1 ou;obtain ⟨k,ov,rv,O,R,rfl,hk,CH,K1,ou⟩:=hrel;have O3:=CH.u.KU;have O4:=CH.u.KV;rw [List.length_map] at O3 O4;obtain ⟨gU,gV,rfl⟩:=O3;obtain ⟨f_,gi,rfl⟩:=O4
  by_cases bZ:k<n
  ·have iC:(k:Int)<(n:Int):=by omega
   have ef:=U (MN tr k n);have IP:=U (fun p=>vI (p:=p) OK.u bZ);have yJ:=U (Nat.le_trans (qQ tr k n) aX);obtain ⟨l,hl⟩:∃ l,Hid (oZ n tr k=l):=⟨_,U rfl⟩;replace ef:Hid (l.Pairwise (· < ·)):=U (by rw [<- hl.u]; exact ef.u);replace yJ:Hid (l.length<=64):=U (by rw [<- hl.u]; exact yJ.u);rw [hl.u] at IP;have C_:=U (show 1<=l.length from List.length_pos_of_mem ((IP.u k).2 ⟨_,Cm.cS⟩));have a_:=U bZ;have jF:=U (show (∀ z,(Value.slice gU O.length gV).ownBlock=some z->z<wr.heap.size)/\(∀ z,(Value.slice f_ R.length gi).ownBlock=some z->z<wr.heap.size)/\w1.heap.size<wr.heap.size from ⟨fun z e=>(CH.u.Au.1 z e).2,fun z e=>(CH.u.Au.2 z e).2,CH.u.kl.lt⟩);have kZ:=U (SZ.mk (Nat.le_refl wr.heap.size));go_upto_region 5 with fail
   refine b6<|j7 rfl<|j6 rfl ?_;go_frame
   have O5:=kZ.u.le;refine f3 19 (aC 165 _ _ _ rfl rfl rfl (Je _ _)) ?_;refine (sw aR aX (HT.u.p K1.u) (fun i p u e=>ik OK.u e) a_.u).mono ?_;rintro e1 fN ⟨v,rfl,bH,hb⟩;rw [hl.u] at bH;have hq:=iP bH.own (k:=0) (by rw [Ma.aB]; exact C_.u);rw [Ma.aB] at hq;obtain ⟨sb,sc,u0,rfl,_,_,_⟩:=hq;have Da:=U O5;refine ⟨_,rfl,?_⟩;go_frame;replace CH:=U (CH.u.p hb);replace kZ:=U (kZ.u.p hb);replace K1:=U (Rg.acc K1.u hb);clear hb;have R5:=U bH;refine j7 rfl ?_;go_frame;clear bH;replace HT:=U (HT.u.p K1.u);replace FT:=U (FT.u.p K1.u);have K5:=U (Below.refl fN.heap.size fN);have RP:=U (fj.nil fN.heap.size fN);have yK:=U (show ∀ j,j<0->Cm.lq n (fun z=>Cm.St (Cm.Gr n gs) k z/\Cm.ap z k=l.getD j 0) (([]:List (List Nat)).getD j []) from fun j h=>absurd h (Nat.not_lt_zero _))
   go_wp2
   go_loopw [7,6] (fun iv tv wq=>∃ (m:Nat) (rs:List (List Nat)),iv=.int .i64 m/\m<=l.length/\rs.length=m/\Hid (fj fN.heap.size wq tv (rs.map Ma.ah))/\Hid (Below fN.heap.size fN wq)/\Hid (∀ j,j<m->Cm.lq n (fun z=>Cm.St (Cm.Gr n gs) k z/\Cm.ap z k=l.getD j 0) (rs.getD j []))) (fun iv _ _=>l.length - (intOf iv).toNat)
   case atStart=>exact ⟨0,[],rfl,Nat.zero_le _,rfl,RP,K5,yK⟩
   case round =>
    clear K5 RP yK;obtain ⟨m,rs,rfl,hm,yL,RP,K5,yK⟩:=hrel
    have hlN:(l.length:Int)<=64:=by have:=yJ.u; omega
    obtain ⟨ta,Fp,rfl⟩:=RP.u.shape
    by_cases jq:m<l.length
    ·have yy:(m:Int)<(l.length:Int):=by omega
     obtain ⟨p,hp⟩:∃ p:Nat,Hid (p=l[m]):=⟨_,U rfl⟩
     have aN:fN.cell? ⟨sb,0+m,none⟩=some (.int .i64 ((p:Nat):Int)):=by
      obtain ⟨g,c,u,e1,e2,e3,_⟩:=iP R5.u.own (k:=m) (by rw [Ma.aB]; exact jq);simp only [Value.slice.injEq,Option.some.injEq,Addr.mk.injEq] at e1;obtain ⟨⟨rfl,_,_⟩,_,_⟩:=e1;rw [e2,<- e3,hp.u];simp [Ma.ah,List.getElem?_eq_getElem jq]
     have CS:=U (CL.mk aN (eQ aN));obtain ⟨u,hu⟩:=(IP.u p).1 (by rw [hp.u]; exact List.getElem_mem jq);have HU:=U hu;have fK:=U jq;have mP:=U yL;clear aN hu yL;go_upto_region 10 with fail
     refine b6<|j7 rfl<|j7 rfl<|j6 rfl<|j7 rfl ?_;go_frame
     refine j6 rfl<|k5 (ag aO _ _ rfl sb (0) (l.length) sc (m) rfl rfl fK.u)<|k5 (g7 (.int .i64 ((p:Nat):Int)) ⟨sb,0+m,none⟩ (af ((Below.cell (p:=⟨sb,0+m,none⟩) K5.u CS.u.lt).trans CS.u.cell))) ?_;go_frame
     have O6:=U (fun z e=>(RP.u.lt z e).2);have O7:=U K5.u.size;refine f3 33 (cu 166 _ _ _ _ rfl rfl rfl rfl (Wo _ _)) ?_;refine (Fm aR aX (HT.u.p K5.u) pT.u OK.u px.u a_.u HU.u).mono ?_;rintro e1 eS ⟨yv,y,B8,rfl,Z5,bH,Tg,Th,hb⟩;obtain ⟨ca,cc,rfl⟩:=Rg.cZ bH;have mh:=U bH;have nG:=U Tg;have GY:=U Th;have Z6:=U Z5;clear bH Tg Th Z5;refine ⟨_,rfl,?_⟩;go_frame;replace RP:=U (RP.u.p hb);replace K5:=U (Rg.acc K5.u hb);clear hb;refine k5 (Rg.aI _ _ _ rfl (.slice ca (Ma.ah y).length cc) rfl (cV eS _ ⟨_,_,_,rfl⟩)) ?_;go_frame;obtain ⟨a9,c9,X9,r1,r2,r3⟩:=RP.u.push K5.u.size mh.u (by rw [Ma.aB,GY.u.2]; omega) (fun z e=>⟨by have:=(mh.u.lt z e).1; have:=O7.u; have:=Z6.u; omega,fun e2=>by have:=(mh.u.lt z e).1; have:=O6.u z e2; have:=Z6.u; omega⟩) (by rw [List.length_map,mP.u]; have:=yJ.u; have:=fK.u; omega) 41
     refine k5 (Rg.bw _ _ _ rfl rfl rfl r1)<|j7 rfl ?_;go_frame
     have K6:=U (r3 (Nat.le_refl _) K5.u);have V7:=U (show fj fN.heap.size X9 (.slice a9 ((rs.map Ma.ah).length+1) c9) ((rs++[y]).map Ma.ah) by rw [List.map_append]; exact r2);have V8:=U (Cm.LI.done HH.u a_.u ⟨px.u.mem k p u a_.u HU.u,px.u.rp.fx k p u (Nat.zero_le _) a_.u HU.u⟩ nG.u)
     have O8:=U (show ∀ j,j<m+1->Cm.lq n (fun z=>Cm.St (Cm.Gr n gs) k z/\Cm.ap z k=l.getD j 0) ((rs++[y]).getD j []) from fun j hj=>by
      have hl:=mP.u
      by_cases e:j=m
      ·subst e
       have e1:(rs++[y]).getD j []=y:=by
        rw [List.getD_eq_getElem?_getD,List.getElem?_append_right (by omega),hl]; simp
       have e2:l.getD j 0=p:=by
        rw [hp.u,List.getD_eq_getElem?_getD,List.getElem?_eq_getElem fK.u]; rfl
       have e3:Cm.ap u k=p:=px.u.rp.at_ k p u (Nat.zero_le _) a_.u HU.u;rw [e1,e2];have:=V8.u
       rwa [e3] at this
      ·have e1:(rs++[y]).getD j []=rs.getD j []:=by
        rw [List.getD_eq_getElem?_getD,List.getD_eq_getElem?_getD,List.getElem?_append_left (by omega)]
       rw [e1]
       exact yK.u j (by omega))
     have O9:=U (show (rs++[y]).length=m+1 by rw [List.length_append,mP.u]; rfl);clear r1 r2 r3;go_wp2
     go_roundw
     case rel=>exact ⟨m+1,rs++[y],by go_num,fK.u,O9.u,V7,K6,O8⟩
     case measure=>simp [intOf]; have:=fK.u; omega
    ·obtain rfl:m=l.length:=by omega
     have yy:¬ (l.length:Int)<(l.length:Int):=by omega
     replace CH:=U (CH.u.p K5.u);replace K1:=U (Rg.acc K1.u K5.u);have V_:=kZ.u.le;replace kZ:=U (kZ.u.p K5.u);have O_:=R5.u.p K5.u
     have PD:=U (yH.mk CH.u (O_.fi (by rw [Ma.aB]; omega) (G:=iZ w1.heap.size wr w1.heap.size (Value.slice gU O.length gV) (Value.slice f_ R.length gi)) (fun z g1 g2=>⟨by have:=Da.u; have:=jF.u.2.2; omega,g2,fun e=>by have:=Da.u; have:=jF.u.1 z e; omega,fun e=>by have:=Da.u; have:=jF.u.2.1 z e; omega,by have:=Da.u; have:=jF.u.2.2; omega⟩))
      (RP.u.IM (by rw [List.length_map,yL]; omega) (G:=iZ w1.heap.size wr w1.heap.size (Value.slice gU O.length gV) (Value.slice f_ R.length gi)) (fun z g1 g2=>⟨by have:=jF.u.2.2; omega,g2,fun e=>by have:=jF.u.1 z e; omega,fun e=>by have:=jF.u.2.1 z e; omega,by have:=jF.u.2.2; omega⟩)))
     have Pa:=U yL;have tS:=U (show (O.map Ma.ah).length<1000000 by rw [List.length_map,ou.u.iK]; omega);have Pc:=U (show (R.map (List.map Ma.ah)).length<1000000 by rw [List.length_map,ou.u.iy]; omega);clear V_ O_ CH RP R5 FT yL;go_upto_region 11 with fail;have eF:Below wr.heap.size wr wr.drew:=(Below.refl _ _).drew;replace PD:=U (PD.u.p eF);replace K1:=U (Rg.acc K1.u eF);replace kZ:=U (kZ.u.p eF);clear eF;have aj:Below wr.heap.size wr wr.drew:=(Below.refl _ _).drew;generalize cB F wr wr.drew=F1 at *;clear aj;refine Rg.Any.begin (S:=Rg.aG 11 (fun W:World=>cD W w1.heap.size (.int .i64 ((n:Nat):Int)) (Value.slice gU O.length gV) (Value.slice f_ R.length gi)/\Below w1.heap.size w1 W) (fun _=>True)) mix ?_;generalize wr.drew=fU at *;have hS:∀ (l:Array Bool) W,(fun W:World=>cD W w1.heap.size (.int .i64 ((n:Nat):Int)) (Value.slice gU O.length gV) (Value.slice f_ R.length gi)/\Below w1.heap.size w1 W) W->Rg.aG 11 (fun W:World=>cD W w1.heap.size (.int .i64 ((n:Nat):Int)) (Value.slice gU O.length gV) (Value.slice f_ R.length gi)/\Below w1.heap.size w1 W) (fun _=>True) l W:=fun l W h=>⟨.inr h,trivial⟩
     have cT:∀ (l:Array Bool) W,l.getD 11 false=true->Rg.aG 11 (fun W:World=>cD W w1.heap.size (.int .i64 ((n:Nat):Int)) (Value.slice gU O.length gV) (Value.slice f_ R.length gi)/\Below w1.heap.size w1 W) (fun _=>True) l W:=fun l W h=>⟨.inl h,trivial⟩;have hI:(fun W:World=>cD W w1.heap.size (.int .i64 ((n:Nat):Int)) (Value.slice gU O.length gV) (Value.slice f_ R.length gi)/\Below w1.heap.size w1 W) fU:=⟨PD.u.ch.kl,K1.u⟩
     refine d7 0 11 (.pointer (some ⟨w1.heap.size,1,none⟩)) 36 rfl rfl (i9 fun w=>aA _ rfl rfl (cn _ _)) (hS _ _ hI)<|i6 1 11 (.slice gU O.length gV) 37 rfl rfl (i8 ⟨w1.heap.size,1,none⟩ (fun W hW=>Rg.ae _ _ Tryz.underlying22 hW.1.c1)) (hS _ _ hI)<|d8 2 11 (.slice (some ⟨sb,0,none⟩) l.length sc) 38 (hS _ _ hI)<|d7 5 11 (.pointer (some ⟨w1.heap.size,2,none⟩)) 41 rfl rfl (i9 fun w=>aA _ rfl rfl (cK _ _)) (hS _ _ hI)<|i6 6 11 (.slice f_ R.length gi) 42 rfl rfl (i8 ⟨w1.heap.size,2,none⟩ (fun W hW=>Rg.ae _ _ Tryz.underlying23 hW.1.c2)) (hS _ _ hI) ?_;go_frame
     refine d8 7 11 (.slice ta (rs.map Ma.ah).length Fp) 43 (hS _ _ hI) ?_;go_frame
     refine Rg.Any.OY (i:=3) (k:=4) (j:=8) (q:=10) (di:=39) (dk:=40) (dj:=44) (dq:=46) (vq:=.pointer (some ⟨w1.heap.size,1,none⟩)) (I:=fun W=>(fun W:World=>cD W w1.heap.size (.int .i64 ((n:Nat):Int)) (Value.slice gU O.length gV) (Value.slice f_ R.length gi)/\Below w1.heap.size w1 W) W/\fU.heap.size<=W.heap.size) (R0:=fun W=>yH w1.heap.size W w1.heap.size (.int .i64 ((n:Nat):Int)) (Value.slice gU O.length gV) (Value.slice f_ R.length gi) (Value.slice gU O.length gV) (Value.slice f_ R.length gi) (O.map Ma.ah) (R.map (List.map Ma.ah)) (.slice (some ⟨sb,0,none⟩) l.length sc) (Ma.ah l) (.slice ta (rs.map Ma.ah).length Fp) (rs.map Ma.ah)) (Ri:=fun u W=>Rg.iz fU.heap.size [.slice (some ⟨sb,0,none⟩) l.length sc] u W) (Rk:=fun x W=>fe w1.heap.size W w1.heap.size (.int .i64 ((n:Nat):Int)) (Value.slice gU O.length gV) (Value.slice f_ R.length gi) x (Value.slice f_ R.length gi) (O.map Ma.ah++[Ma.ah l]) (R.map (List.map Ma.ah))/\Rg.aM (iZ w1.heap.size W w1.heap.size x (Value.slice f_ R.length gi)) W (.slice ta (rs.map Ma.ah).length Fp) (rs.map Ma.ah)/\∃ a c,x=.slice a (O.length+1) c) (Rj:=fun v W=>Rg.iz fU.heap.size [.slice ta (rs.map Ma.ah).length Fp] v W) (fun l W h=>hS l W h.1)
      (by decide) (by decide) (by decide) (by decide) (by decide) (by decide) (by kernel_rfl) (by kernel_rfl) (by kernel_rfl) (by kernel_rfl) (by kernel_rfl) ?_ ?_
      (fun _ _ hb h=>h.p hb) (fun _ _ _ hb h=>h.p hb) (fun _ _ _ hb h=>⟨h.1.p hb,oq h.2.1 hb,h.2.2⟩) (fun _ _ _ hb h=>h.p hb) ?_ ?_ ?_ ⟨hI,Nat.le_refl _⟩ (PD.u) ?_
     ·intro u x W m hs h
      exact Rg.Any.vd (i:=10) (t:=11) (v:=.pointer (some ⟨w1.heap.size,1,none⟩)) (some 46) rfl rfl (by kernel_rfl) (by kernel_rfl) (by kernel_rfl) (fun _ _ _ h=>h) rfl (i9 fun w=>aA _ rfl rfl (cn _ _)) hs h
     ·intro u v x W m hs h
      exact Rg.Any.vd (i:=10) (t:=11) (v:=.pointer (some ⟨w1.heap.size,1,none⟩)) (some 46) rfl rfl (by kernel_rfl) (by kernel_rfl) (by kernel_rfl) (fun _ _ _ h=>h) rfl (i9 fun w=>aA _ rfl rfl (cn _ _)) hs h
     ·intro b hb W hW
      have pq:Below W.heap.size W (W.alloc (.cells #[.slice (some ⟨sb,0,none⟩) l.length sc] 26)):=(Below.refl _ _).alloc (Nat.le_refl _) _
      exact Rg.nz rfl rfl (by rcases hb with rfl | ⟨u,rfl⟩ <;> rfl) (Rg.aI _ _ _ rfl (.slice (some ⟨sb,0,none⟩) l.length sc) (by rcases hb with rfl | ⟨u,rfl⟩ <;> rfl) (tK W _ ⟨_,_,_,rfl⟩)) ⟨⟨⟨hW.1.1.p pq,Rg.acc hW.1.2 pq⟩,by simp; have:=hW.2; omega⟩,Rg.iz.new W [.slice (some ⟨sb,0,none⟩) l.length sc] 26 hW.2,pq⟩
     ·intro b hb W hW
      have pq:Below W.heap.size W (W.alloc (.cells #[.slice ta (rs.map Ma.ah).length Fp] 41)):=(Below.refl _ _).alloc (Nat.le_refl _) _
      exact Rg.nz rfl rfl (by rcases hb with rfl | ⟨u,rfl⟩ | ⟨u,v,rfl⟩ <;> rfl) (Rg.aI _ _ _ rfl (.slice ta (rs.map Ma.ah).length Fp) (by rcases hb with rfl | ⟨u,rfl⟩ | ⟨u,v,rfl⟩ <;> rfl) (rJ W _ ⟨_,_,_,rfl⟩)) ⟨⟨⟨hW.1.1.p pq,Rg.acc hW.1.2 pq⟩,by simp; have:=hW.2; omega⟩,Rg.iz.new W [.slice ta (rs.map Ma.ah).length Fp] 41 hW.2,pq⟩
     ·intro u b hb W hW h0 hu
      obtain ⟨pu,rfl,pW,pz,n7⟩:=hu;obtain ⟨a2,c2,X,r1,r2,r3,r4⟩:=h0.ch.n8 hW.1.2.size h0.f5 rfl tS.u (n7 0 (by simp)) 22;have kb:=Rg.Kp.cH r3 (M:=fun z=>(Value.slice gU O.length gV).ownBlock=some z) (fun _ e=>e)
      exact Rg.nz rfl rfl (by rcases hb with rfl | ⟨v,rfl⟩ <;> rfl) (Rg.bw _ _ _ rfl (by rcases hb with rfl | ⟨v,rfl⟩ <;> rfl) (by rcases hb with rfl | ⟨v,rfl⟩ <;> rfl) r1) ⟨⟨⟨r2.kl,hW.1.2.grown r3 hW.1.2.size (fun j e=>(h0.ch.Au.1 j e).1)⟩,Nat.le_trans hW.2 r3.size⟩,⟨r2,aM.mono (aM.kp h0.f6 kb (fun z g e=>g.2.2.1 e)) r4,_,_,by rw [List.length_map]⟩,fun v hv=>hv.grown r3 (fun j e=>Nat.lt_of_lt_of_le (jF.u.1 j e) kZ.u.le)⟩
     rintro tT fu fx fv hb hk hj;have se:=hb.1;have ZN:=hb.2;clear hb hI;go_frame;have FK:=U hk;have FJ:=U hj;obtain ⟨pj,Wa,Wc,ye,s_⟩:=FJ.u;subst Wa;obtain ⟨a2,c2,Mz⟩:=FK.u.2.2;subst Mz;obtain ⟨a3,c3,X3,q1,q2,q3⟩:=FK.u.1.OQ se.2.size FK.u.2.1 rfl Pc.u (s_ 0 (by simp)) 23;rw [List.length_map] at q1 q2;have kh:=(show _/\_ from ⟨q2.kl,se.2.grown q3 se.2.size (fun j e=>(FK.u.1.Au.2 j e).1)⟩);refine i7 9 45 rfl rfl (Rg.bw _ _ _ rfl rfl rfl q1) (hS _ _ kh) ?_;go_frame;have KX:=U kh.2;refine Rg.Any.one (i:=11) (by kernel_rfl) (Rg.Any.dR none rfl rfl rfl (Rg.aq _ _ _ rfl _ rfl _ rfl (Rg.bA _ yG q2.kl.c1 q2.kl.f1)) (cT _ _ rfl) ?_);go_frame;refine d7 12 11 (.pointer (some ⟨w1.heap.size,2,none⟩)) 47 rfl rfl (i9 fun w=>aA _ rfl rfl (cK _ _)) (cT _ _ rfl) ?_;go_frame
     refine Rg.Any.one (i:=13) (by kernel_rfl) (Rg.Any.dR none rfl rfl rfl (Rg.aq _ _ _ rfl _ rfl _ rfl (Rg.bA _ wQ (q2.kl.KP _).c2 (q2.kl.KP _).f2)) (cT _ _ rfl) ?_);go_frame;refine Rg.Any.done (by kernel_rfl) ?_ _;clear cT;clear hS kh;have IQ:=q2.store (.slice a2 (O.length+1) c2) (.slice a3 (R.length+1) c3);have Pd:=(KX.u.setCell (p:=⟨w1.heap.size,1,none⟩) (Nat.le_refl _) (.slice a2 (O.length+1) c2)).setCell (p:=⟨w1.heap.size,2,none⟩) (Nat.le_refl _) (.slice a3 (R.length+1) c3);generalize (X3.setCell ⟨w1.heap.size,1,none⟩ (.slice a2 (O.length+1) c2)).setCell ⟨w1.heap.size,2,none⟩ (.slice a3 (R.length+1) c3)=dH at *;have We:=U (show fe w1.heap.size dH w1.heap.size (.int .i64 ((n:Nat):Int)) (.slice a2 (O.length+1) c2) (.slice a3 (R.length+1) c3) (.slice a2 (O.length+1) c2) (.slice a3 (R.length+1) c3) ((O++[l]).map Ma.ah) ((R++[rs]).map (List.map Ma.ah)) by rw [List.map_append,List.map_append]; exact IQ)
     have K2:=U Pd;have IU:=U (ou.u.snoc ef.u (fun p=>IP.u p) Pa.u yK.u);clear IQ Pd q1 q2 q3 KX FK FJ PD;go_wp2
     go_roundw
     case rel=>exact ⟨k+1,_,_,O++[l],R++[rs],by go_num,a_.u,We,K2,IU⟩
     case measure=>simp [intOf]; have:=a_.u; omega
  ·obtain rfl:k=n:=by omega
   have iC:¬ (k:Int)<(k:Int):=by omega
   have TT:=U (FT.u.p K1.u);go_upto_region 12 with fail
   refine b6<|k5 (Rg.e_ _ _ rfl ⟨w1.heap.size,0,none⟩ rfl (oh CH.u.kl))<|Rg.aL none rfl rfl (Rg.aq _ _ _ rfl _ rfl _ rfl (aV _ _ _ _ _ _ _ TT.u)) ?_;go_frame
   have yM:=Rg.Kp.trans (Rg.Kp.trans (Rg.Kp.aU (M:=fun z=>z=w.heap.size) (w:=wr) (a:=⟨w.heap.size,0,none⟩) (v:=.int .i64 ((k:Nat):Int)) rfl) (Rg.Kp.aU (M:=fun z=>z=w.heap.size) (a:=⟨w.heap.size,1,none⟩) (v:=(Value.slice gU O.length gV)) rfl) (fun _ _ e=>e)) (Rg.Kp.aU (M:=fun z=>z=w.heap.size) (a:=⟨w.heap.size,2,none⟩) (v:=(Value.slice f_ R.length gi)) rfl) (fun _ _ e=>e);have bR:=CH.u.kp yM (fun z e=>by rw [e]; exact OZ);have Db:=TT.u.set (.int .i64 ((k:Nat):Int)) (Value.slice gU O.length gV) (Value.slice f_ R.length gi);have pX:=((((K.u.trans (K1.u.mono K.u.size)).setCell (p:=⟨w.heap.size,0,none⟩) (Nat.le_refl _) (.int .i64 ((k:Nat):Int))).setCell (p:=⟨w.heap.size,1,none⟩) (Nat.le_refl _) (Value.slice gU O.length gV)).setCell (p:=⟨w.heap.size,2,none⟩) (Nat.le_refl _) (Value.slice f_ R.length gi))
   have Pe:=ou.u.E8 px.u
   have Pf:∀ (X:World) (c0 c1 c2 a b:Value),fe w1.heap.size X w1.heap.size c0 c1 c2 a b (O.map Ma.ah) (R.map (List.map Ma.ah))->bs (fun z=>w.heap.size<=z) X b (R.map (List.map Ma.ah)):=fun _ _ _ _ _ _ h=>by
    obtain ⟨us,h1,h2⟩:=h.ZL (by rw [List.length_map,ou.u.iy]; omega);exact ⟨us,h1.mono (fun z hz=>by omega),bT.mono h2 (fun z hz=>by omega)⟩
   go_wp2;exact bodyPost_ret (jE rfl _ rfl Db) rfl ⟨_,_,rfl,O,aM.mono (bR.ZK (by rw [List.length_map,ou.u.iK]; omega)) (fun z hz=>by omega),R,Pf _ _ _ _ _ _ bR,Pe,pX⟩
end
section
open Go.Proofs.Ob
open Go.Proofs.Cm (Tr dc)
attribute [local irreducible] Go.Calls Go.wpList
theorem Di (args:Array Value) (w:World):(callFunc 81 args).run Tryz.prog w=.ok (.enter 81 args) w:=by kernel_rfl
theorem Wp (args:Array Value) (w:World):(callFunc 145 args).run Tryz.prog w=.ok (.enter 145 args) w:=by kernel_rfl
theorem Wq (args:Array Value) (w:World):(callFunc 147 args).run Tryz.prog w=.ok (.enter 147 args) w:=by kernel_rfl
theorem Wr (args:Array Value) (w:World):(callFunc 148 args).run Tryz.prog w=.ok (.enter 148 args) w:=by kernel_rfl
theorem bs.mono {F F':Nat->Prop} {w:World} {v:Value} {fQ:List (List (List Int))} (h:bs F w v fQ) (hF:∀ k,F k->F' k):bs F' w v fQ:=by
 obtain ⟨us,h1,h2⟩:=h;exact ⟨us,h1.mono hF,bT.mono h2 hF⟩
def Ws (B:Nat) (w:World) (cv:Value) (n:Nat) (gs:List (List Nat)):Prop:=∃ ov rv O R,cv=.agg #[.int .i64 ((n:Nat):Int),ov,rv]/\Rg.aM (fun z=>B<=z) w ov (O.map Ma.ah)/\bs (fun z=>B<=z) w rv (R.map (List.map Ma.ah))/\Cm.ar n (Cm.Gr n (·∈gs)) O R
def cW (B:Nat) (w:World) (d:Int) (ll:List (List Int)) (cv:Value) (c:Int):Prop:=(c≠0/\cv=kn)∨(c=0/\∃ n gs,d=((n:Nat):Int)/\ll=gs.map Ma.ah/\1<=n/\n<=64/\Ws B w cv n gs)
theorem cW.kp {B:Nat} {M:Nat->Prop} {w w':World} {d:Int} {ll:List (List Int)} {cv:Value} {c:Int} (h:cW B w d ll cv c) (hk:Rg.Kp M w w') (hM:∀ z,M z->z<B):cW B w' d ll cv c:=by
 rcases h with h | ⟨h0,n,gs,h1,h2,h3,h4,ov,rv,O,R,h5,h6,h7,h8⟩
 ·exact .inl h
 ·exact .inr ⟨h0,n,gs,h1,h2,h3,h4,ov,rv,O,R,h5,aM.kp h6 hk (fun z g e=>by have:=hM z e; omega),h7.kp hk (fun z g e=>by have:=hM z e; omega),h8⟩
theorem cW.Dj {w:World} {c:Int} (h:cW B w d ll cv c):ow w d ll cv c:=by
 rcases h with h | ⟨h0,n,gs,h1,h2,h3,h4,ov,rv,O,R,h5,h6,h7,h8⟩
 ·exact .inl h
 ·exact .inr ⟨h0,n,gs,h1,h2,h3,h4,ov,rv,O,R,h5,aM.rows h6,h7.rows,h8⟩
theorem ow.shape {w:World} {d:Int} {ll:List (List Int)} {cv:Value} {c:Int} (h:ow w d ll cv c):∃ e a n k a' n' k',cv=.agg #[.int .i64 e,.slice a n k,.slice a' n' k']:=by
 rcases h with ⟨_,rfl⟩ | ⟨h0,n,gs,h1,h2,h3,h4,ov,rv,O,R,h5,h6,h7,h8⟩
 ·exact ⟨_,_,_,_,_,_,_,rfl⟩
 ·obtain ⟨oa,oc,rfl,_⟩:=h6.shape
  obtain ⟨ra,rc,rfl⟩:=h7.shape;exact ⟨_,_,_,_,_,_,_,h5⟩
theorem GS.kg {F F':Nat->Prop} {w w':World} {v:Value} {gs:List (List Nat)} (h:GS F w v gs) (hk:KG F w F' w'):GS F' w' v gs:=by
 obtain ⟨a,c,e,h1⟩:=h;refine ⟨a,c,e,fun h0=>?_⟩;obtain ⟨b,o,e2,h2⟩:=h1 h0;refine ⟨b,o,e2,fun k dy=>?_⟩;obtain ⟨u,h3,h4⟩:=h2 k dy;exact ⟨u,h3.kg hk,h4.kg hk⟩
theorem GS.at {w:World} {b o c:Nat} (h:GS F w (.slice (some ⟨b,o,none⟩) n c) gs) {k:Nat} (hk:k<gs.length):∃ u,CF F w b (o+k) u/\FP F w u gs[k]:=by
 obtain ⟨a,c',e,h1⟩:=h;obtain ⟨b',o',e2,h2⟩:=h1 (by omega)
 injection e with e3 _ _
 rw [e2] at e3;simp only [Option.some.injEq,Addr.mk.injEq,and_true] at e3;obtain ⟨rfl,rfl⟩:=e3;exact h2 k hk
theorem PH (aR:1<=n) (aX:n<=64) (w:World) :
  Calls Tryz.prog 145 #[.int .i64 ((n:Nat):Int)] w fun e w'=>∃ tb c F Rb,e=.returned (.slice (some ⟨tb,0,none⟩) n c)/\KG (fun k=>k<w.heap.size) w F w'/\cg F tb 0 n w' (fun _ _=>none) Rb (fun _ _=>.slice none 0 0)/\Below w.heap.size w w':=by
 refine (I2 aR aX w).mono ?_;rintro e w' ⟨tb,c,F,Rb,rfl,h1,h2⟩;exact ⟨tb,c,F,Rb,rfl,h1,h2,h1.kf.p (Nat.le_refl _) (fun _ h=>h)⟩
theorem Jj (gv:Value) (d:Int) (ll:List (List Int)) (w:World) (h:Rg.Rows w gv ll) :
  Calls Tryz.prog 115 #[.int .i64 d,gv] w fun e w'=>∃ cv,e=.returned (.tuple #[cv,.int .i64 (bG d ll)])/\cW w.heap.size w' d ll cv (bG d ll)/\Below w.heap.size w w':=by
 obtain ⟨ga,gc,rfl,wW,La,_,iX⟩:=h.shape;have G0:=U h;have pT:=U iX;have K:=U (Below.refl w.heap.size w);clear h iX wW
 go_enter Tryz.func115,Tryz.ntmps115
 go_upto_region 0 with fail;refine b6 ?_;have cj:=cD.new w (.int .i64 0) (.slice none 0 0) (.slice none 0 0);refine k5 (bN rfl) ?_;go_frame;have hb:=(Below.refl w.heap.size w).alloc (Nat.le_refl _) (.cells #[.int .i64 0,.slice none 0 0,.slice none 0 0] 25);generalize w.alloc (.cells #[.int .i64 0,.slice none 0 0,.slice none 0 0] 25)=w1 at *;replace G0:=U (G0.u.p hb);replace K:=U (Rg.acc K.u hb);clear hb;have FT:=U cj;refine j6 rfl ?_;go_frame;clear cj;have K1:=U (Below.refl w1.heap.size w1);have KB:=K;clear K;have sf:=FT.u.lt
 by_cases Wt:d<1
 ·have HC:=U (show bG d ll=2 by unfold bG; rw [if_neg (by omega)])
  go_upto_region 1 with fail
  refine b6<|j6 rfl<|k5 (g8 (.bool true) .lss (h:=aH _ f7))<|j9 rfl<|f9 13 ?_;go_frame
  refine f9 14<|k5 (i4 (.bool true)) ?_;go_frame
  have fh:=U (FT.u.p K1.u);have KX:=U (KB.u.trans (K1.u.mono KB.u.size));go_upto_region 2 with fail
  refine b6<|k5 (cU rfl)<|Rg.aL none rfl rfl (Rg.aq _ _ _ rfl _ rfl _ rfl (aV _ _ _ _ _ _ _ fh.u))<|j6 rfl ?_;go_frame
  have fL:=fV fh.u KX.u (Nat.le_refl _);generalize ((w1.setCell ⟨w.heap.size,0,none⟩ (.int .i64 0)).setCell ⟨w.heap.size,1,none⟩ (.slice none 0 0)).setCell ⟨w.heap.size,2,none⟩ (.slice none 0 0)=dH at *
  have jr:=U (show ∃ cv,Ending.returned (.tuple #[kn,.int .i64 (2)])=.returned (.tuple #[cv,.int .i64 (bG d ll)])/\cW w.heap.size dH d ll cv (bG d ll)/\Below w.heap.size w dH from
   ⟨_,by rw [HC.u],.inl ⟨by rw [HC.u]; decide,rfl⟩,fL.2⟩)
  have lM:=U fL.1;clear fL;go_wp2;exact bodyPost_ret (bx (p:=4) (u:=5) rfl _ rfl rfl lM.u) rfl jr.u
 by_cases Jk:64<d
 ·have HC:=U (show bG d ll=2 by unfold bG; rw [if_neg (by omega)])
  go_upto_region 1 with fail
  refine b6<|j6 rfl<|k5 (g8 (.bool false) .lss (h:=aH _ f8))<|j9 rfl<|j6 rfl ?_;go_frame
  refine k5 (g8 (.bool true) .gtr (h:=bl _ f7))<|k5 (i3 (.bool true)) ?_;go_frame
  have fh:=U (FT.u.p K1.u);have KX:=U (KB.u.trans (K1.u.mono KB.u.size));go_upto_region 2 with fail
  refine b6<|k5 (cU rfl)<|Rg.aL none rfl rfl (Rg.aq _ _ _ rfl _ rfl _ rfl (aV _ _ _ _ _ _ _ fh.u))<|j6 rfl ?_;go_frame
  have fL:=fV fh.u KX.u (Nat.le_refl _);generalize ((w1.setCell ⟨w.heap.size,0,none⟩ (.int .i64 0)).setCell ⟨w.heap.size,1,none⟩ (.slice none 0 0)).setCell ⟨w.heap.size,2,none⟩ (.slice none 0 0)=dH at *
  have jr:=U (show ∃ cv,Ending.returned (.tuple #[kn,.int .i64 (2)])=.returned (.tuple #[cv,.int .i64 (bG d ll)])/\cW w.heap.size dH d ll cv (bG d ll)/\Below w.heap.size w dH from
   ⟨_,by rw [HC.u],.inl ⟨by rw [HC.u]; decide,rfl⟩,fL.2⟩)
  have lM:=U fL.1;clear fL;go_wp2;exact bodyPost_ret (bx (p:=4) (u:=5) rfl _ rfl rfl lM.u) rfl jr.u
 have p_:1<=d/\d<=64:=by omega
 go_upto_region 1 with fail
 refine b6<|j6 rfl<|k5 (g8 (.bool false) .lss (h:=aH _ f8))<|j9 rfl<|j6 rfl ?_;go_frame
 refine k5 (g8 (.bool false) .gtr (h:=bl _ f8))<|k5 (i3 (.bool false)) ?_;go_frame
 by_cases hg1:4096<ll.length
 ·have HC:=U (show bG d ll=4 by unfold bG; rw [if_pos p_,if_neg (by omega)])
  go_upto_region 3 with fail
  refine b6<|j7 rfl<|k5 (g9 Tryz.underlying41)<|k5 (g8 (.bool true) .gtr (h:=bl _ f7)) ?_;go_frame
  have fh:=U (FT.u.p K1.u);have KX:=U (KB.u.trans (K1.u.mono KB.u.size));go_upto_region 4 with fail
  refine b6<|k5 (cU rfl)<|Rg.aL none rfl rfl (Rg.aq _ _ _ rfl _ rfl _ rfl (aV _ _ _ _ _ _ _ fh.u))<|j6 rfl ?_;go_frame
  have fL:=fV fh.u KX.u (Nat.le_refl _);generalize ((w1.setCell ⟨w.heap.size,0,none⟩ (.int .i64 0)).setCell ⟨w.heap.size,1,none⟩ (.slice none 0 0)).setCell ⟨w.heap.size,2,none⟩ (.slice none 0 0)=dH at *
  have jr:=U (show ∃ cv,Ending.returned (.tuple #[kn,.int .i64 (4)])=.returned (.tuple #[cv,.int .i64 (bG d ll)])/\cW w.heap.size dH d ll cv (bG d ll)/\Below w.heap.size w dH from
   ⟨_,by rw [HC.u],.inl ⟨by rw [HC.u]; decide,rfl⟩,fL.2⟩)
  have lM:=U fL.1;clear fL;go_wp2;exact bodyPost_ret (bx (p:=4) (u:=5) rfl _ rfl rfl lM.u) rfl jr.u
 have lN:=U (show bG d ll=Ma.js d ll by unfold bG; rw [if_pos p_,if_pos (by omega)]);have mQ:=U (show Ma.js d (ll.drop 0)=Ma.js d ll by rw [List.drop_zero]);go_upto_region 3 with fail
 refine b6<|j7 rfl<|k5 (g9 Tryz.underlying41)<|k5 (g8 (.bool false) .gtr (h:=bl _ f8)) ?_;go_frame
 go_wp2
 go_loopw [6] (fun kv wr=>∃ k:Nat,kv=.int .i64 k/\k<=ll.length/\Hid (Below w1.heap.size w1 wr)/\Hid (Ma.js d (ll.drop k)=Ma.js d ll)) (fun kv _=>ll.length - (intOf kv).toNat)
 case atStart=>exact ⟨0,rfl,Nat.zero_le _,K1,mQ⟩
 case round =>
  clear K1 mQ;obtain ⟨k,rfl,hk,K1,mQ⟩:=hrel
  by_cases bZ:k<ll.length
  ·have iC:(k:Int)<(ll.length:Int):=by omega
   have iX:=pT.u;obtain ⟨gb,go,rfl,sy,EZ⟩:=iX (by omega);obtain ⟨u,nE,tY⟩:=EZ k bZ;obtain ⟨x,hx⟩:∃ x,Hid (ll[k]=x):=⟨_,U rfl⟩;rw [hx.u] at tY;have CU:=U (CL.mk ((KB.u.cell (p:=⟨gb,go+k,none⟩) sy).trans nE) (Nat.lt_of_lt_of_le sy KB.u.size));have XU:=U (Rg.Ints.p tY KB.u);obtain ⟨xa,xc,rfl,_⟩:=tY.shape;have a_:=U bZ;have pA:=XU.u.len;have Wu:=U (show x.length<=1000000000 by obtain ⟨n,a,c,e,_,e2⟩:=pA; omega);clear iX EZ nE tY pA sy;go_upto_region 8 with fail
   refine b6<|j7 rfl<|j6 rfl<|k5 (ag aK _ _ rfl gb (go) (ll.length) gc (k) rfl rfl a_.u)<|k5 (g7 (.slice xa x.length xc) ⟨gb,go+k,none⟩ (Rg.ae _ _ Tryz.underlying27 ((Below.cell (p:=⟨gb,go+k,none⟩) K1.u CU.u.lt).trans CU.u.cell))) ?_;go_frame
   refine f3 31 (ax 81 _ _ rfl rfl (Di _ _)) ?_;refine (gA _ _ wr (XU.u.p K1.u)).mono ?_;rintro e1 fN ⟨rfl,hb⟩;refine ⟨_,rfl,?_⟩;go_frame;replace K1:=U (Rg.acc K1.u hb);clear hb;refine j6 rfl ?_;go_frame
   by_cases pW:Ma.bU x=0
   ·by_cases PI:(x.length:Int)=d
    ·skip
     go_upto_region 9 with fail
     refine b6<|j6 rfl<|k5 (g8 (.bool false) .neq (h:=az _ f8)) ?_;go_frame
     go_upto_region 11 with fail
     refine b6<|j7 rfl<|j6 rfl<|k5 (ag aK _ _ rfl gb (go) (ll.length) gc (k) rfl rfl a_.u)<|k5 (g7 (.slice xa x.length xc) ⟨gb,go+k,none⟩ (Rg.ae _ _ Tryz.underlying27 ((Below.cell (p:=⟨gb,go+k,none⟩) K1.u CU.u.lt).trans CU.u.cell))) ?_;go_frame
     refine k5 (g9 Tryz.underlying27)<|j6 rfl<|k5 (g8 (.bool false) .neq (h:=az _ f8)) ?_;go_frame
     have Wv:=U (show Ma.js d (ll.drop (k+1))=Ma.js d ll by rw [<- Ma.A_ a_.u (by rw [hx.u]; exact pW) (by rw [hx.u]; exact PI)]; exact mQ.u);go_wp2
     go_roundw
     case rel=>exact ⟨k+1,by go_num,a_.u,K1,Wv⟩
     case measure=>simp [intOf]; have:=a_.u; omega
    ·have HC:=U (show bG d ll=10 by rw [lN.u,<- mQ.u]; exact Ma.Ed a_.u (by rw [hx.u]; exact pW) (by rw [hx.u]; exact PI))
     go_upto_region 9 with fail
     refine b6<|j6 rfl<|k5 (g8 (.bool false) .neq (h:=az _ f8)) ?_;go_frame
     go_upto_region 11 with fail
     refine b6<|j7 rfl<|j6 rfl<|k5 (ag aK _ _ rfl gb (go) (ll.length) gc (k) rfl rfl a_.u)<|k5 (g7 (.slice xa x.length xc) ⟨gb,go+k,none⟩ (Rg.ae _ _ Tryz.underlying27 ((Below.cell (p:=⟨gb,go+k,none⟩) K1.u CU.u.lt).trans CU.u.cell))) ?_;go_frame
     refine k5 (g9 Tryz.underlying27)<|j6 rfl<|k5 (g8 (.bool true) .neq (h:=az _ f7)) ?_;go_frame
     have fh:=U (FT.u.p K1.u);have KX:=U (KB.u.trans (K1.u.mono KB.u.size));go_upto_region 12 with fail
     refine b6<|k5 (cU rfl)<|Rg.aL none rfl rfl (Rg.aq _ _ _ rfl _ rfl _ rfl (aV _ _ _ _ _ _ _ fh.u))<|j6 rfl ?_;go_frame
     have fL:=fV fh.u KX.u (Nat.le_refl _);generalize ((fN.setCell ⟨w.heap.size,0,none⟩ (.int .i64 0)).setCell ⟨w.heap.size,1,none⟩ (.slice none 0 0)).setCell ⟨w.heap.size,2,none⟩ (.slice none 0 0)=dH at *
     have jr:=U (show ∃ cv,Ending.returned (.tuple #[kn,.int .i64 (10)])=.returned (.tuple #[cv,.int .i64 (bG d ll)])/\cW w.heap.size dH d ll cv (bG d ll)/\Below w.heap.size w dH from
      ⟨_,by rw [HC.u],.inl ⟨by rw [HC.u]; decide,rfl⟩,fL.2⟩)
     have lM:=U fL.1;clear fL;go_wp2;exact bodyPost_ret (bx (p:=4) (u:=5) rfl _ rfl rfl lM.u) rfl jr.u
   ·have HC:=U (show bG d ll=Ma.bU x by rw [lN.u,<- mQ.u,Ma.Ec a_.u (by rw [hx.u]; exact pW),hx.u])
    go_upto_region 9 with fail
    refine b6<|j6 rfl<|k5 (g8 (.bool true) .neq (h:=az _ f7)) ?_;go_frame
    have fh:=U (FT.u.p K1.u);have KX:=U (KB.u.trans (K1.u.mono KB.u.size));go_upto_region 10 with fail
    refine b6<|k5 (cU rfl)<|j6 rfl<|Rg.aL none rfl rfl (Rg.aq _ _ _ rfl _ rfl _ rfl (aV _ _ _ _ _ _ _ fh.u))<|j6 rfl ?_;go_frame
    have fL:=fV fh.u KX.u (Nat.le_refl _);generalize ((fN.setCell ⟨w.heap.size,0,none⟩ (.int .i64 0)).setCell ⟨w.heap.size,1,none⟩ (.slice none 0 0)).setCell ⟨w.heap.size,2,none⟩ (.slice none 0 0)=dH at *
    have jr:=U (show ∃ cv,Ending.returned (.tuple #[kn,.int .i64 (Ma.bU x)])=.returned (.tuple #[cv,.int .i64 (bG d ll)])/\cW w.heap.size dH d ll cv (bG d ll)/\Below w.heap.size w dH from
     ⟨_,by rw [HC.u],.inl ⟨by rw [HC.u]; exact pW,rfl⟩,fL.2⟩)
    have lM:=U fL.1;clear fL;go_wp2;exact bodyPost_ret (bx (p:=4) (u:=5) rfl _ rfl rfl lM.u) rfl jr.u
  ·obtain rfl:k=ll.length:=by omega
   have iC:¬ (ll.length:Int)<(ll.length:Int):=by omega
   have hz:=mQ.u;rw [Ma.Ee (Nat.le_refl _)] at hz;obtain ⟨n,gs,S6,q8,eA,aR,aX,ke⟩:=Pg p_.1 p_.2 hz.symm;have ss:=U q8;have Ay:=U ke;have ko:=U eA;have HC:=U (show bG d ll=0 by rw [lN.u]; exact hz.symm);subst S6;have fh:=U (FT.u.p K1.u);have KX:=U (KB.u.trans (K1.u.mono KB.u.size));have GR:=U (Rg.Rows.p G0.u K1.u);clear q8 ke eA hz;have Z7:=U fh.u.lt;have Ww:=KX;have U9:GS (fun k=>k<wr.heap.size) wr (.slice ga ll.length gc) gs:=GS.EW (by have:=GR.u; rw [show gs.map Ma.ah=ll from ss.u.symm]; exact this);go_upto_region 13 with fail
   refine b6<|j6 rfl ?_;go_frame
   refine f3 45 (ax 145 _ _ rfl rfl (Wp _ _)) ?_;refine (PH aR aX wr).mono ?_;rintro e1 fU ⟨tb,tc,F0,Rb,rfl,ee,mi,hb⟩;have GE:=U (U9.kg ee);have TE:=U mi;have PJ:=U ee;clear ee mi U9;refine ⟨_,rfl,?_⟩;go_frame;replace fh:=U (fh.u.p hb);replace GR:=U (GR.u.p hb);replace KX:=U (Rg.acc KX.u hb);clear hb;refine j7 rfl ?_;go_frame;obtain ⟨wB,Z8⟩:∃ W,Hid (W=wr):=⟨_,U rfl⟩;rw [<- Z8.u] at PJ Z7 Ww;clear Z8 GR;have KE:=U (KG.refl TE.u.gI);have Z9:=U (Cm.dc.Ph (n:=n) (gs:=(·∈gs)));have jG:=U (show ∀ a (h:a<gs.length),a<0->Cm.Sd n (Cm.cE n (fun _ _=>none)) n gs[a] from fun a _ h=>absurd h (Nat.not_lt_zero _));have Z_:=Ay;go_wp2
   go_loopw [9] (fun jv wr=>∃ (j:Nat) (F1:Nat->Prop) (V:Nat->Nat->Value) (tr:Tr),jv=.int .i64 j/\j<=ll.length/\Hid (cg F1 tb 0 n wr tr Rb V)/\Hid (KG F0 fU F1 wr)/\Hid (dc n (·∈gs) tr)/\Hid (∀ a (h:a<gs.length),a<j->Cm.Sd n (Cm.cE n tr) n gs[a])) (fun jv _=>ll.length - (intOf jv).toNat)
   case atStart=>exact ⟨0,_,_,_,rfl,Nat.zero_le _,TE,KE,Z9,jG⟩
   case round =>
    clear TE KE Z9 jG;obtain ⟨j,F,V,tr,rfl,hj,HT,KE,OK,HS⟩:=hrel
    by_cases vJ:j<ll.length
    ·have CJ:(j:Int)<(ll.length:Int):=by omega
     have oy:=U vJ
     have PL:j<gs.length:=by have:=Z_.u; omega
     have HJG:=U PL
     have Co:∃ gb go,ga=some ⟨gb,go,none⟩:=by
      obtain ⟨a,c,e,h1⟩:=GE.u;obtain ⟨b,o,e2,_⟩:=h1 (by omega)
      injection e with e _ _
      exact ⟨b,o,e.trans e2⟩
     obtain ⟨gb,go,rfl⟩:=Co;obtain ⟨u,nE,tY⟩:=GE.u.at PL;obtain ⟨x,hx⟩:∃ x:List Nat,Hid (gs[j]'PL=x):=⟨_,U rfl⟩
     replace tY:FP F0 fU u x:=by rw [<- hx.u]; exact tY
     have GX:=U (show Cm.Gd n x by rw [<- hx.u]; exact ko.u _ (List.getElem_mem PL));have Fh:Cm.Gr n (·∈gs) x:=.gen _ (by rw [<- hx.u]; exact List.getElem_mem PL);have CU:=U (nE.kg KE.u);have XU:=U (tY.kg KE.u);have lh:=tU ko.u OK.u Fh;clear nE tY Fh;go_upto_region 17 with fail
     refine b6<|j7 rfl<|j7 rfl<|j6 rfl<|k5 (ag aK _ _ rfl gb (go) (ll.length) gc (j) rfl rfl oy.u) ?_;go_frame
     refine k5 (g7 (u) ⟨gb,go+j,none⟩ (Rg.ae _ _ Tryz.underlying27 CU.u.cell)) ?_;go_frame;refine f3 57 (aC 146 _ _ _ rfl rfl rfl (I9 _ _)) ?_;refine (pZ aR aX HT.u OK.u.rp XU.u GX.u).mono ?_;rintro e1 Fq ⟨F9,V9,rfl,nr,mi⟩;have ee:=nr.kg;refine ⟨_,rfl,?_⟩;go_frame;clear HT;clear CU;clear XU;replace KE:=U (KE.u.trans ee);have HT:=U mi;clear ee;clear nr mi;generalize lf n tr (Cm.dg n (Cm.cE n tr) n x)=p9 at *;have yR:=U lh.1
     have MA:=U (show ∀ a (h:a<gs.length),a<j+1->Cm.Sd n (Cm.cE n p9) n gs[a] from fun a h ha=>by
      by_cases e:a=j
      ·subst e
       rw [show gs[a]=x from hx.u]; exact lh.2.2.1
      ·exact Cm.Sd.mono (fun i p u _=>lh.2.1 i p u) (HS.u a h (by omega)))
     clear lh;go_wp2
     go_roundw
     case rel=>exact ⟨j+1,_,_,_,by go_num,oy.u,HT,KE,yR,MA⟩
     case measure=>simp [intOf]; have:=oy.u; omega
    ·obtain rfl:j=ll.length:=by omega
     have CJ:¬ (ll.length:Int)<(ll.length:Int):=by omega
     have HSA:=U (show ∀ s,s∈gs->Cm.Sd n (Cm.cE n tr) n s from fun s hs=>by
      obtain ⟨a,ha,rfl⟩:=List.getElem_of_mem hs
      exact HS.u a ha (by have:=Z_.u; omega))
     go_upto_region 18 with fail
     refine b6<|j7 rfl ?_;go_frame
     refine f3 59 (ax 147 _ _ rfl rfl (Wq _ _)) ?_;refine (Ff aR aX HT.u ko.u OK.u HSA.u).mono ?_;rintro e1 To ⟨F9,V9,tr9,rfl,ee,mi,U_,Va⟩;have OK9:=U U_;have TR9:=U Va;clear U_ Va;refine ⟨_,rfl,?_⟩;go_frame;clear HT;replace KE:=U (KE.u.trans ee);have HT:=U mi;clear ee;clear mi;have mO:Below wB.heap.size wB To:=(PJ.u.trans KE.u).kf.p (Nat.le_refl _) (fun _ h=>h);have hbe:Below wB.heap.size wB fU:=PJ.u.kf.p (Nat.le_refl _) (fun _ h=>h);have PN:=U (show cD To w.heap.size (.int .i64 0) (.slice none 0 0) (.slice none 0 0) from fh.u.kp KE.u.kf (fun h=>h (PJ.u.sub _ Z7.u)));have KY:=U (show Below w.heap.size w To from (Ww.u.trans (mO.mono Ww.u.size)));clear mO hbe fh KX KE PJ;go_upto_region 19 with fail
     refine b6<|j7 rfl ?_;go_frame
     have fC:=U PN.u.lt;refine f3 61 (ax 148 _ _ rfl rfl (Wr _ _)) ?_;refine (Fo aR aX HT.u ko.u OK9.u TR9.u).mono ?_;rintro e1 w92 ⟨ov,rv,O,R,rfl,hO,hR,Fs,hb⟩;have PO:=U (Nat.lt_of_lt_of_le fC.u hb.size);obtain ⟨oa,oc,rfl,_⟩:=hO.rows.shape;obtain ⟨ra,rc,rfl⟩:=hR.rows.shape;have HO:=U hO;have HR:=U hR;have cX:=U Fs;clear hO hR Fs;refine ⟨_,rfl,?_⟩;go_frame;replace PN:=U (PN.u.p hb);replace HT:=U (HT.u.p hb);replace KY:=U (Rg.acc KY.u hb);clear hb
     refine Rg.aL none rfl rfl (Rg.aq _ _ _ rfl _ rfl _ rfl (aV _ _ _ _ _ _ _ PN.u))<|j6 rfl ?_;go_frame
     have Db:=PN.u.set (.int .i64 ((n:Nat):Int)) (.slice oa (O.map Ma.ah).length oc) (.slice ra (R.map (List.map Ma.ah)).length rc);have yM:=Rg.Kp.trans (Rg.Kp.trans (Rg.Kp.aU (M:=fun z=>z=w.heap.size) (w:=w92) (a:=⟨w.heap.size,0,none⟩) (v:=.int .i64 ((n:Nat):Int)) rfl) (Rg.Kp.aU (M:=fun z=>z=w.heap.size) (a:=⟨w.heap.size,1,none⟩) (v:=(.slice oa (O.map Ma.ah).length oc)) rfl) (fun _ _ e=>e)) (Rg.Kp.aU (M:=fun z=>z=w.heap.size) (a:=⟨w.heap.size,2,none⟩) (v:=(.slice ra (R.map (List.map Ma.ah)).length rc)) rfl) (fun _ _ e=>e);have hro:=aM.mono (F':=fun z=>w.heap.size<=z) (aM.kp HO.u yM (fun z g e=>by have:=fC.u; omega)) (fun z hz=>by have:=fC.u; omega);have PQ:=(HR.u.kp yM (fun z g e=>by have:=fC.u; omega)).mono (F':=fun z=>w.heap.size<=z) (fun z hz=>by have:=fC.u; omega)
     have pX:=((KY.u.setCell (p:=⟨w.heap.size,0,none⟩) (Nat.le_refl _) (.int .i64 ((n:Nat):Int))).setCell (p:=⟨w.heap.size,1,none⟩) (Nat.le_refl _) (.slice oa (O.map Ma.ah).length oc)).setCell (p:=⟨w.heap.size,2,none⟩) (Nat.le_refl _) (.slice ra (R.map (List.map Ma.ah)).length rc);generalize ((w92.setCell ⟨w.heap.size,0,none⟩ (.int .i64 ((n:Nat):Int))).setCell ⟨w.heap.size,1,none⟩ (.slice oa (O.map Ma.ah).length oc)).setCell ⟨w.heap.size,2,none⟩ (.slice ra (R.map (List.map Ma.ah)).length rc)=dH at *;have lM:=U Db
     have jr:=U (show ∃ cv,Ending.returned (.tuple #[.agg #[.int .i64 ((n:Nat):Int),(.slice oa (O.map Ma.ah).length oc),(.slice ra (R.map (List.map Ma.ah)).length rc)],.int .i64 0])=.returned (.tuple #[cv,.int .i64 (bG ((n:Nat):Int) ll)])/\cW w.heap.size dH ((n:Nat):Int) ll cv (bG ((n:Nat):Int) ll)/\Below w.heap.size w dH from
      ⟨_,by rw [HC.u],.inr ⟨HC.u,n,gs,rfl,ss.u,aR,aX,_,_,O,R,rfl,hro,PQ,cX.u⟩,pX⟩)
     clear Db yM hro PQ pX;go_wp2;exact bodyPost_ret (bx (p:=4) (u:=5) rfl _ rfl rfl lM.u) rfl jr.u
end
section
open Go.Proofs.Ob
attribute [local irreducible] Go.Calls Go.wpList
theorem kq {o:Oper} {a:Act} {w:World} (F:FuncId) (x y f:Operand) (pL:Array TypeId) (ho:o.op=.call { callee:=.value f,args:=#[x,y],argTypes:=pL }) (hf:a.eval f=.func (.func F) #[] #[]) (hx:a.eval x=u1) (hy:a.eval y=u2)
  (hF:(callFunc F #[u1,u2]).run Tryz.prog w=.ok (.enter F #[u1,u2]) w):(execOp a.eval o).run Tryz.prog w=.ok (.enter F #[u1,u2]) w:=by
 unfold execOp;simp [ho,hx,hy,hf,resolve,invoke,Deferred.ofValue,hF]
def yT (F:FuncId) (w0:World) (us vs:List Value) (p:Nat->Bool):Prop:=∀ i (h:i<us.length) (h2:i<vs.length) (W:World),Below w0.heap.size w0 W->Calls Tryz.prog F #[us[i],vs[i]] W fun e W'=>e=.returned (.bool (p i))/\Below W.heap.size W W'
def jJ (m n:Nat) (p:Nat->Bool):Bool:=m == n && (List.range m).all p
theorem sA {m:Nat} {p:Nat->Bool} (h:m≠n):jJ m n p=false:=by unfold jJ; simp [h]
theorem sB {m:Nat} {p:Nat->Bool} (h:(List.range m).all p=true):jJ m m p=true:=by unfold jJ; simp [h]
theorem vK {m:Nat} {p:Nat->Bool} {k:Nat} (hk:k<m) (h:p k=false):jJ m m p=false:=by
 unfold jJ;rw [Bool.and_eq_false_iff]
 right
 rw [List.all_eq_false];exact ⟨k,List.mem_range.2 hk,by simp [h]⟩
theorem lO {p:Nat->Bool} {k:Nat} (h:(List.range k).all p=true) (h2:p k=true):(List.range (k+1)).all p=true:=by
 rw [List.range_succ,List.all_append];simp [h,h2]
theorem Jl {m:Nat} {p:Nat->Bool}:jJ m n p=true↔m=n/\∀ i,i<m->p i=true:=by
 unfold jJ;simp
theorem yU {α:Type} [DecidableEq α] {l m:List α} {p:Nat->Bool} (h:∀ i (h1:i<l.length) (h2:i<m.length),p i=decide (l[i]=m[i])):jJ l.length m.length p=decide (l=m):=by
 rw [Bool.eq_iff_iff,Jl,decide_eq_true_iff]
 constructor
 ·rintro ⟨h1,h2⟩
  refine List.ext_getElem h1 fun i a b=>?_;have:=h2 i a;rw [h i a b] at this;exact of_decide_eq_true this
 ·rintro rfl
  exact ⟨rfl,fun i hi=>by rw [h i hi hi]; simp⟩
theorem Dk {va vb:Value} {us vs:List Value} {w:World} (h1:Rg.cN w va us) (h2:Rg.cN w vb vs) (F:FuncId) (hF:∀ args W,(callFunc F args).run Tryz.prog W=.ok (.enter F args) W) {p:Nat->Bool} (hp:yT F w us vs p) :
  Calls Tryz.prog 125 #[va,vb,.func (.func F) #[] #[]] w fun e w'=>e=.returned (.bool (jJ us.length vs.length p))/\Below w.heap.size w w':=by
 obtain ⟨ad,cap,rfl,_,_,Ag,aN⟩:=h1;obtain ⟨Ae,k9,rfl,_,_,tZ,dv⟩:=h2;unfold Rg.nU at Ag tZ;have Hc:=U aN;have Dl:=U dv;have HP:=U hp;have K:=U (Below.refl w.heap.size w);clear aN dv hp
 go_enter Tryz.func125,Tryz.ntmps125
 by_cases hne:us.length=vs.length
 ·have Ft:(us.length:Int)=(vs.length:Int):=by omega
  have q9:=U hne;go_upto_region 1 with fail
  refine b6<|j7 rfl<|k5 (g9 Tryz.underlying22)<|j7 rfl<|k5 (g9 Tryz.underlying22) ?_;go_frame
  refine k5 (g8 (.bool false) .neq (h:=az _ f8)) ?_;go_frame;have HA:=U (show (List.range 0).all p=true from rfl);go_wp2
  go_loopw [17] (fun kv wr=>∃ k:Nat,kv=.int .i64 k/\k<=us.length/\Hid ((List.range k).all p=true)/\Hid (Below w.heap.size w wr)) (fun kv _=>us.length - (intOf kv).toNat)
  case atStart=>exact ⟨0,rfl,Nat.zero_le _,HA,K⟩
  case round =>
   clear HA K;obtain ⟨k,rfl,hk,HA,K⟩:=hrel
   by_cases bZ:k<us.length
   ·have iC:(k:Int)<(us.length:Int):=by omega
    have k_:k<vs.length:=by omega
    have a_:=U bZ;have wX:=U k_;obtain ⟨b,o,rfl,hb,hc⟩:=Hc.u (by omega);obtain ⟨b2,o2,rfl,df,fS⟩:=Dl.u (by omega);obtain ⟨x,hx⟩:∃ x:Value,Hid (us[k]'bZ=x):=⟨_,U rfl⟩;obtain ⟨y,hy⟩:∃ y:Value,Hid (vs[k]'k_=y):=⟨_,U rfl⟩;have CX:=U (CL.mk (show w.cell? ⟨b,o+k,none⟩=some x by rw [<- hx.u]; exact hc k bZ) hb);have CY:=U (CL.mk (show w.cell? ⟨b2,o2+k,none⟩=some y by rw [<- hy.u]; exact fS k k_) df);have jX:=HP.u k bZ k_ wr K.u;rw [show us[k]=x from hx.u,show vs[k]=y from hy.u] at jX;have HK:=U jX;clear hc fS jX hb df
    cases gH:p k with
    | true =>
     have HPK:=U gH;rw [gH] at HK;have ef:=U (lO HA.u gH);clear gH;go_upto_region 5 with fail
     refine b6<|j6 rfl<|k5 (ag bI _ _ rfl b (o) (us.length) cap (k) rfl rfl a_.u)<|k5 (g7 (x) ⟨b,o+k,none⟩ (Rg.ae _ _ Tryz.underlying26 ((Below.cell (p:=⟨b,o+k,none⟩) K.u CX.u.lt).trans CX.u.cell)))<|j6 rfl ?_;go_frame
     refine j5 (x) rfl ?_;go_frame;go_upto_region 6 with fail
     refine b6<|j7 rfl<|j6 rfl<|k5 (ag bI _ _ rfl b2 (o2) (vs.length) k9 (k) rfl rfl wX.u)<|k5 (g7 (y) ⟨b2,o2+k,none⟩ (Rg.ae _ _ Tryz.underlying26 ((Below.cell (p:=⟨b2,o2+k,none⟩) K.u CY.u.lt).trans CY.u.cell))) ?_;go_frame
     refine j5 (y) rfl ?_;go_frame;go_upto_region 7 with fail
     refine b6<|j5 (.func (.func F) #[] #[]) rfl<|j5 (x) rfl<|j5 (y) rfl ?_;go_frame
     refine f3 29 (kq F _ _ _ _ rfl rfl rfl rfl (hF _ _)) ?_;refine (HK.u).mono ?_;rintro e1 fN ⟨rfl,hb⟩;refine ⟨_,rfl,?_⟩;go_frame;replace K:=U (Rg.acc K.u hb);clear hb;refine k5 (bn _ _ true rfl rfl) ?_;go_frame;go_wp2
     go_roundw
     case rel=>exact ⟨k+1,by go_num,a_.u,ef,K⟩
     case measure=>simp [intOf]; have:=a_.u; omega
    | false =>
     rw [gH] at HK;have HR:=U (vK bZ gH);clear gH;go_upto_region 5 with fail
     refine b6<|j6 rfl<|k5 (ag bI _ _ rfl b (o) (us.length) cap (k) rfl rfl a_.u)<|k5 (g7 (x) ⟨b,o+k,none⟩ (Rg.ae _ _ Tryz.underlying26 ((Below.cell (p:=⟨b,o+k,none⟩) K.u CX.u.lt).trans CX.u.cell)))<|j6 rfl ?_;go_frame
     refine j5 (x) rfl ?_;go_frame;go_upto_region 6 with fail
     refine b6<|j7 rfl<|j6 rfl<|k5 (ag bI _ _ rfl b2 (o2) (vs.length) k9 (k) rfl rfl wX.u)<|k5 (g7 (y) ⟨b2,o2+k,none⟩ (Rg.ae _ _ Tryz.underlying26 ((Below.cell (p:=⟨b2,o2+k,none⟩) K.u CY.u.lt).trans CY.u.cell))) ?_;go_frame
     refine j5 (y) rfl ?_;go_frame;go_upto_region 7 with fail
     refine b6<|j5 (.func (.func F) #[] #[]) rfl<|j5 (x) rfl<|j5 (y) rfl ?_;go_frame
     refine f3 29 (kq F _ _ _ _ rfl rfl rfl rfl (hF _ _)) ?_;refine (HK.u).mono ?_;rintro e1 fN ⟨rfl,hb⟩;refine ⟨_,rfl,?_⟩;go_frame;replace K:=U (Rg.acc K.u hb);clear hb;refine k5 (bn _ _ false rfl rfl) ?_;go_frame;go_wp2;go_ret;exact ⟨by rw [<- q9.u,HR.u]; rfl,K.u⟩
   ·obtain rfl:k=us.length:=by omega
    have iC:¬ (us.length:Int)<(us.length:Int):=by omega
    have HR:=U (sB HA.u);go_wp2;go_ret;exact ⟨by rw [<- q9.u,HR.u]; rfl,K.u⟩
 ·have Ft:¬ (us.length:Int)=(vs.length:Int):=by omega
  have HR:=U (sA (p:=p) hne);go_upto_region 1 with fail
  refine b6<|j7 rfl<|k5 (g9 Tryz.underlying22)<|j7 rfl<|k5 (g9 Tryz.underlying22) ?_;go_frame
  refine k5 (g8 (.bool true) .neq (h:=az _ f7)) ?_;go_frame;go_wp2;go_ret;exact ⟨by rw [HR.u]; rfl,K.u⟩
theorem Dm {va vb:Value} {us vs:List Value} {w:World} (h1:Rg.cN w va us) (h2:Rg.cN w vb vs) (F:FuncId) (hF:∀ args W,(callFunc F args).run Tryz.prog W=.ok (.enter F args) W) {p:Nat->Bool} (hp:yT F w us vs p) :
  Calls Tryz.prog 127 #[va,vb,.func (.func F) #[] #[]] w fun e w'=>e=.returned (.bool (jJ us.length vs.length p))/\Below w.heap.size w w':=by
 obtain ⟨ad,cap,rfl,_,_,Ag,aN⟩:=h1;obtain ⟨Ae,k9,rfl,_,_,tZ,dv⟩:=h2;unfold Rg.nU at Ag tZ;have Hc:=U aN;have Dl:=U dv;have HP:=U hp;have K:=U (Below.refl w.heap.size w);clear aN dv hp
 go_enter Tryz.func127,Tryz.ntmps127
 by_cases hne:us.length=vs.length
 ·have Ft:(us.length:Int)=(vs.length:Int):=by omega
  have q9:=U hne;go_upto_region 1 with fail
  refine b6<|j7 rfl<|k5 (g9 Tryz.underlying23)<|j7 rfl<|k5 (g9 Tryz.underlying23) ?_;go_frame
  refine k5 (g8 (.bool false) .neq (h:=az _ f8)) ?_;go_frame;have HA:=U (show (List.range 0).all p=true from rfl);go_wp2
  go_loopw [17] (fun kv wr=>∃ k:Nat,kv=.int .i64 k/\k<=us.length/\Hid ((List.range k).all p=true)/\Hid (Below w.heap.size w wr)) (fun kv _=>us.length - (intOf kv).toNat)
  case atStart=>exact ⟨0,rfl,Nat.zero_le _,HA,K⟩
  case round =>
   clear HA K;obtain ⟨k,rfl,hk,HA,K⟩:=hrel
   by_cases bZ:k<us.length
   ·have iC:(k:Int)<(us.length:Int):=by omega
    have k_:k<vs.length:=by omega
    have a_:=U bZ;have wX:=U k_;obtain ⟨b,o,rfl,hb,hc⟩:=Hc.u (by omega);obtain ⟨b2,o2,rfl,df,fS⟩:=Dl.u (by omega);obtain ⟨x,hx⟩:∃ x:Value,Hid (us[k]'bZ=x):=⟨_,U rfl⟩;obtain ⟨y,hy⟩:∃ y:Value,Hid (vs[k]'k_=y):=⟨_,U rfl⟩;have CX:=U (CL.mk (show w.cell? ⟨b,o+k,none⟩=some x by rw [<- hx.u]; exact hc k bZ) hb);have CY:=U (CL.mk (show w.cell? ⟨b2,o2+k,none⟩=some y by rw [<- hy.u]; exact fS k k_) df);have jX:=HP.u k bZ k_ wr K.u;rw [show us[k]=x from hx.u,show vs[k]=y from hy.u] at jX;have HK:=U jX;clear hc fS jX hb df
    cases gH:p k with
    | true =>
     have HPK:=U gH;rw [gH] at HK;have ef:=U (lO HA.u gH);clear gH;go_upto_region 5 with fail
     refine b6<|j6 rfl<|k5 (ag bE _ _ rfl b (o) (us.length) cap (k) rfl rfl a_.u)<|k5 (g7 (x) ⟨b,o+k,none⟩ (Rg.ae _ _ Tryz.underlying41 ((Below.cell (p:=⟨b,o+k,none⟩) K.u CX.u.lt).trans CX.u.cell)))<|j6 rfl ?_;go_frame
     refine j5 (x) rfl ?_;go_frame;go_upto_region 6 with fail
     refine b6<|j7 rfl<|j6 rfl<|k5 (ag bE _ _ rfl b2 (o2) (vs.length) k9 (k) rfl rfl wX.u)<|k5 (g7 (y) ⟨b2,o2+k,none⟩ (Rg.ae _ _ Tryz.underlying41 ((Below.cell (p:=⟨b2,o2+k,none⟩) K.u CY.u.lt).trans CY.u.cell))) ?_;go_frame
     refine j5 (y) rfl ?_;go_frame;go_upto_region 7 with fail
     refine b6<|j5 (.func (.func F) #[] #[]) rfl<|j5 (x) rfl<|j5 (y) rfl ?_;go_frame
     refine f3 29 (kq F _ _ _ _ rfl rfl rfl rfl (hF _ _)) ?_;refine (HK.u).mono ?_;rintro e1 fN ⟨rfl,hb⟩;refine ⟨_,rfl,?_⟩;go_frame;replace K:=U (Rg.acc K.u hb);clear hb;refine k5 (bn _ _ true rfl rfl) ?_;go_frame;go_wp2
     go_roundw
     case rel=>exact ⟨k+1,by go_num,a_.u,ef,K⟩
     case measure=>simp [intOf]; have:=a_.u; omega
    | false =>
     rw [gH] at HK;have HR:=U (vK bZ gH);clear gH;go_upto_region 5 with fail
     refine b6<|j6 rfl<|k5 (ag bE _ _ rfl b (o) (us.length) cap (k) rfl rfl a_.u)<|k5 (g7 (x) ⟨b,o+k,none⟩ (Rg.ae _ _ Tryz.underlying41 ((Below.cell (p:=⟨b,o+k,none⟩) K.u CX.u.lt).trans CX.u.cell)))<|j6 rfl ?_;go_frame
     refine j5 (x) rfl ?_;go_frame;go_upto_region 6 with fail
     refine b6<|j7 rfl<|j6 rfl<|k5 (ag bE _ _ rfl b2 (o2) (vs.length) k9 (k) rfl rfl wX.u)<|k5 (g7 (y) ⟨b2,o2+k,none⟩ (Rg.ae _ _ Tryz.underlying41 ((Below.cell (p:=⟨b2,o2+k,none⟩) K.u CY.u.lt).trans CY.u.cell))) ?_;go_frame
     refine j5 (y) rfl ?_;go_frame;go_upto_region 7 with fail
     refine b6<|j5 (.func (.func F) #[] #[]) rfl<|j5 (x) rfl<|j5 (y) rfl ?_;go_frame
     refine f3 29 (kq F _ _ _ _ rfl rfl rfl rfl (hF _ _)) ?_;refine (HK.u).mono ?_;rintro e1 fN ⟨rfl,hb⟩;refine ⟨_,rfl,?_⟩;go_frame;replace K:=U (Rg.acc K.u hb);clear hb;refine k5 (bn _ _ false rfl rfl) ?_;go_frame;go_wp2;go_ret;exact ⟨by rw [<- q9.u,HR.u]; rfl,K.u⟩
   ·obtain rfl:k=us.length:=by omega
    have iC:¬ (us.length:Int)<(us.length:Int):=by omega
    have HR:=U (sB HA.u);go_wp2;go_ret;exact ⟨by rw [<- q9.u,HR.u]; rfl,K.u⟩
 ·have Ft:¬ (us.length:Int)=(vs.length:Int):=by omega
  have HR:=U (sA (p:=p) hne);go_upto_region 1 with fail
  refine b6<|j7 rfl<|k5 (g9 Tryz.underlying23)<|j7 rfl<|k5 (g9 Tryz.underlying23) ?_;go_frame
  refine k5 (g8 (.bool true) .neq (h:=az _ f7)) ?_;go_frame;go_wp2;go_ret;exact ⟨by rw [HR.u]; rfl,K.u⟩
theorem Dn {va vb:Value} {us vs:List Value} {w:World} (h1:Rg.cN w va us) (h2:Rg.cN w vb vs) (F:FuncId) (hF:∀ args W,(callFunc F args).run Tryz.prog W=.ok (.enter F args) W) {p:Nat->Bool} (hp:yT F w us vs p) :
  Calls Tryz.prog 129 #[va,vb,.func (.func F) #[] #[]] w fun e w'=>e=.returned (.bool (jJ us.length vs.length p))/\Below w.heap.size w w':=by
 obtain ⟨ad,cap,rfl,_,_,Ag,aN⟩:=h1;obtain ⟨Ae,k9,rfl,_,_,tZ,dv⟩:=h2;unfold Rg.nU at Ag tZ;have Hc:=U aN;have Dl:=U dv;have HP:=U hp;have K:=U (Below.refl w.heap.size w);clear aN dv hp
 go_enter Tryz.func129,Tryz.ntmps129
 by_cases hne:us.length=vs.length
 ·have Ft:(us.length:Int)=(vs.length:Int):=by omega
  have q9:=U hne;go_upto_region 1 with fail
  refine b6<|j7 rfl<|k5 (g9 Tryz.underlying41)<|j7 rfl<|k5 (g9 Tryz.underlying41) ?_;go_frame
  refine k5 (g8 (.bool false) .neq (h:=az _ f8)) ?_;go_frame;have HA:=U (show (List.range 0).all p=true from rfl);go_wp2
  go_loopw [17] (fun kv wr=>∃ k:Nat,kv=.int .i64 k/\k<=us.length/\Hid ((List.range k).all p=true)/\Hid (Below w.heap.size w wr)) (fun kv _=>us.length - (intOf kv).toNat)
  case atStart=>exact ⟨0,rfl,Nat.zero_le _,HA,K⟩
  case round =>
   clear HA K;obtain ⟨k,rfl,hk,HA,K⟩:=hrel
   by_cases bZ:k<us.length
   ·have iC:(k:Int)<(us.length:Int):=by omega
    have k_:k<vs.length:=by omega
    have a_:=U bZ;have wX:=U k_;obtain ⟨b,o,rfl,hb,hc⟩:=Hc.u (by omega);obtain ⟨b2,o2,rfl,df,fS⟩:=Dl.u (by omega);obtain ⟨x,hx⟩:∃ x:Value,Hid (us[k]'bZ=x):=⟨_,U rfl⟩;obtain ⟨y,hy⟩:∃ y:Value,Hid (vs[k]'k_=y):=⟨_,U rfl⟩;have CX:=U (CL.mk (show w.cell? ⟨b,o+k,none⟩=some x by rw [<- hx.u]; exact hc k bZ) hb);have CY:=U (CL.mk (show w.cell? ⟨b2,o2+k,none⟩=some y by rw [<- hy.u]; exact fS k k_) df);have jX:=HP.u k bZ k_ wr K.u;rw [show us[k]=x from hx.u,show vs[k]=y from hy.u] at jX;have HK:=U jX;clear hc fS jX hb df
    cases gH:p k with
    | true =>
     have HPK:=U gH;rw [gH] at HK;have ef:=U (lO HA.u gH);clear gH;go_upto_region 5 with fail
     refine b6<|j6 rfl<|k5 (ag aK _ _ rfl b (o) (us.length) cap (k) rfl rfl a_.u)<|k5 (g7 (x) ⟨b,o+k,none⟩ (Rg.ae _ _ Tryz.underlying27 ((Below.cell (p:=⟨b,o+k,none⟩) K.u CX.u.lt).trans CX.u.cell)))<|j6 rfl ?_;go_frame
     refine j5 (x) rfl ?_;go_frame;go_upto_region 6 with fail
     refine b6<|j7 rfl<|j6 rfl<|k5 (ag aK _ _ rfl b2 (o2) (vs.length) k9 (k) rfl rfl wX.u)<|k5 (g7 (y) ⟨b2,o2+k,none⟩ (Rg.ae _ _ Tryz.underlying27 ((Below.cell (p:=⟨b2,o2+k,none⟩) K.u CY.u.lt).trans CY.u.cell))) ?_;go_frame
     refine j5 (y) rfl ?_;go_frame;go_upto_region 7 with fail
     refine b6<|j5 (.func (.func F) #[] #[]) rfl<|j5 (x) rfl<|j5 (y) rfl ?_;go_frame
     refine f3 29 (kq F _ _ _ _ rfl rfl rfl rfl (hF _ _)) ?_;refine (HK.u).mono ?_;rintro e1 fN ⟨rfl,hb⟩;refine ⟨_,rfl,?_⟩;go_frame;replace K:=U (Rg.acc K.u hb);clear hb;refine k5 (bn _ _ true rfl rfl) ?_;go_frame;go_wp2
     go_roundw
     case rel=>exact ⟨k+1,by go_num,a_.u,ef,K⟩
     case measure=>simp [intOf]; have:=a_.u; omega
    | false =>
     rw [gH] at HK;have HR:=U (vK bZ gH);clear gH;go_upto_region 5 with fail
     refine b6<|j6 rfl<|k5 (ag aK _ _ rfl b (o) (us.length) cap (k) rfl rfl a_.u)<|k5 (g7 (x) ⟨b,o+k,none⟩ (Rg.ae _ _ Tryz.underlying27 ((Below.cell (p:=⟨b,o+k,none⟩) K.u CX.u.lt).trans CX.u.cell)))<|j6 rfl ?_;go_frame
     refine j5 (x) rfl ?_;go_frame;go_upto_region 6 with fail
     refine b6<|j7 rfl<|j6 rfl<|k5 (ag aK _ _ rfl b2 (o2) (vs.length) k9 (k) rfl rfl wX.u)<|k5 (g7 (y) ⟨b2,o2+k,none⟩ (Rg.ae _ _ Tryz.underlying27 ((Below.cell (p:=⟨b2,o2+k,none⟩) K.u CY.u.lt).trans CY.u.cell))) ?_;go_frame
     refine j5 (y) rfl ?_;go_frame;go_upto_region 7 with fail
     refine b6<|j5 (.func (.func F) #[] #[]) rfl<|j5 (x) rfl<|j5 (y) rfl ?_;go_frame
     refine f3 29 (kq F _ _ _ _ rfl rfl rfl rfl (hF _ _)) ?_;refine (HK.u).mono ?_;rintro e1 fN ⟨rfl,hb⟩;refine ⟨_,rfl,?_⟩;go_frame;replace K:=U (Rg.acc K.u hb);clear hb;refine k5 (bn _ _ false rfl rfl) ?_;go_frame;go_wp2;go_ret;exact ⟨by rw [<- q9.u,HR.u]; rfl,K.u⟩
   ·obtain rfl:k=us.length:=by omega
    have iC:¬ (us.length:Int)<(us.length:Int):=by omega
    have HR:=U (sB HA.u);go_wp2;go_ret;exact ⟨by rw [<- q9.u,HR.u]; rfl,K.u⟩
 ·have Ft:¬ (us.length:Int)=(vs.length:Int):=by omega
  have HR:=U (sA (p:=p) hne);go_upto_region 1 with fail
  refine b6<|j7 rfl<|k5 (g9 Tryz.underlying41)<|j7 rfl<|k5 (g9 Tryz.underlying41) ?_;go_frame
  refine k5 (g8 (.bool true) .neq (h:=az _ f7)) ?_;go_frame;go_wp2;go_ret;exact ⟨by rw [HR.u]; rfl,K.u⟩

theorem PR (args:Array Value) (w:World):(callFunc 131 args).run Tryz.prog w=.ok (.enter 131 args) w:=by kernel_rfl
theorem Wx (args:Array Value) (w:World):(callFunc 129 args).run Tryz.prog w=.ok (.enter 129 args) w:=by kernel_rfl
theorem PT (args:Array Value) (w:World):(callFunc 125 args).run Tryz.prog w=.ok (.enter 125 args) w:=by kernel_rfl
theorem Wy (args:Array Value) (w:World):(callFunc 127 args).run Tryz.prog w=.ok (.enter 127 args) w:=by kernel_rfl
theorem mj (v1 v2:Value) (l1 l2:List Int) (w:World) (h:Rg.Ints w v1 l1) (h':Rg.Ints w v2 l2)  :
  Calls Tryz.prog 126 #[v1,v2] w fun e w'=>e=.returned (.bool (decide (l1=l2)))/\Below w.heap.size w w':=by
 have hl:l1.length<=1000000000:=by obtain ⟨n,a,c,e,_,e2⟩:=h.len; omega
 obtain ⟨ad,cap,rfl,_,Ag,_,aN⟩:=h.shape;obtain ⟨Ae,k9,rfl,_,tZ,_,dv⟩:=h'.shape;have Hc:=U aN;have Dl:=U dv;clear aN h dv h'
 by_cases hne:l1.length=l2.length
 ·rw [<- hne]
  rw [<- hne] at tZ;have q9:=U hne;clear hne
  go_enter Tryz.func126,Tryz.ntmps126
  go_wp2
  go_loopw [13] (fun i wr=>∃ k:Nat,k<=l1.length/\i=.int .i64 k/\Hid (l1.take k=l2.take k)/\Hid (Below w.heap.size w wr)) (fun i _=>l1.length - (intOf i).toNat)
  case atStart=>exact ⟨0,by omega,rfl,U (by simp),U (Below.refl _ _)⟩
  case round =>
   obtain ⟨k,hk,rfl,hs,b_⟩:=hrel
   by_cases aw:k<l1.length
   ·have eK:k<l2.length:=by have:=q9.u; omega
    obtain ⟨b,o,rfl,hb,hc⟩:=Hc.u (by omega);obtain ⟨b2,o2,rfl,df,fS⟩:=Dl.u (by omega);have c0:=(b_.u.cell (p:=⟨b,o+k,none⟩) hb).trans (hc k aw);have c2:=(b_.u.cell (p:=⟨b2,o2+k,none⟩) df).trans (fS k eK);obtain ⟨x,hx⟩:∃ x,Hid (x=l1[k]):=⟨_,U rfl⟩;obtain ⟨y,hy⟩:∃ y,Hid (y=l2[k]):=⟨_,U rfl⟩;rw [<- hx.u] at c0;rw [<- hy.u] at c2
    have bZ:(k:Int)<(l1.length:Int):=by omega
    clear hc hb fS df
    by_cases he:x=y
    ·have e1:(x != y)=false:=by simp [he]
     have HE:=U he;go_upto_region 6 with fail
     go_quiet (fail)
     have vC:=U (Rg.drewN b_.u nq);generalize wr.drewN nq=wq at *;go_wp2
     go_roundw
     case rel =>
      refine ⟨k+1,by omega,by go_num,U ?_,vC⟩;rw [List.take_succ_eq_append_getElem aw,List.take_succ_eq_append_getElem eK,hs.u,<- hx.u,<- hy.u,HE.u]
     case measure=>simp [intOf]; omega
    ·have e1:(x != y)=true:=by simp [he]
     have hm:decide (l1=l2)=false:=by
      rw [decide_eq_false_iff_not];intro e;subst e;exact he (hx.u.trans hy.u.symm)
     have HM:=U hm;clear hm;go_upto_region 6 with fail
     go_quiet (fail)
     have vC:=U (Rg.drewN b_.u nq);generalize wr.drewN nq=wq at *;go_wp2;go_ret;exact ⟨by rw [HM.u]; rfl,vC.u⟩
   ·obtain rfl:k=l1.length:=by omega
    have hm:decide (l1=l2)=true:=by
     rw [decide_eq_true_iff];have:=hs.u
     rwa [List.take_length,q9.u,List.take_length] at this
    have HM:=U hm;clear hm;go_wp2;go_ret;exact ⟨by rw [HM.u]; rfl,b_.u⟩
 ·have hb:((l1.length:Int) != (l2.length:Int))=true:=by rw [bne_iff_ne]; omega
  have hm:decide (l1=l2)=false:=by
   rw [decide_eq_false_iff_not];intro e;subst e;exact hne rfl
  have HM:=U hm;have q9:=U hne;clear hm hne
  go_enter Tryz.func126,Tryz.ntmps126
  go_wp2;go_ret;exact ⟨by rw [HM.u]; rfl,Below.refl _ _⟩
theorem t_ (v1 v2:Value) (l1 l2:List Int) (w:World) (h:Rg.Ints w v1 l1) (h':Rg.Ints w v2 l2)  :
  Calls Tryz.prog 131 #[v1,v2] w fun e w'=>e=.returned (.bool (decide (l1=l2)))/\Below w.heap.size w w':=by
 have hl:l1.length<=1000000000:=by obtain ⟨n,a,c,e,_,e2⟩:=h.len; omega
 obtain ⟨ad,cap,rfl,_,Ag,_,aN⟩:=h.shape;obtain ⟨Ae,k9,rfl,_,tZ,_,dv⟩:=h'.shape;have Hc:=U aN;have Dl:=U dv;clear aN h dv h'
 by_cases hne:l1.length=l2.length
 ·rw [<- hne]
  rw [<- hne] at tZ;have q9:=U hne;clear hne
  go_enter Tryz.func131,Tryz.ntmps131
  go_wp2
  go_loopw [13] (fun i wr=>∃ k:Nat,k<=l1.length/\i=.int .i64 k/\Hid (l1.take k=l2.take k)/\Hid (Below w.heap.size w wr)) (fun i _=>l1.length - (intOf i).toNat)
  case atStart=>exact ⟨0,by omega,rfl,U (by simp),U (Below.refl _ _)⟩
  case round =>
   obtain ⟨k,hk,rfl,hs,b_⟩:=hrel
   by_cases aw:k<l1.length
   ·have eK:k<l2.length:=by have:=q9.u; omega
    obtain ⟨b,o,rfl,hb,hc⟩:=Hc.u (by omega);obtain ⟨b2,o2,rfl,df,fS⟩:=Dl.u (by omega);have c0:=(b_.u.cell (p:=⟨b,o+k,none⟩) hb).trans (hc k aw);have c2:=(b_.u.cell (p:=⟨b2,o2+k,none⟩) df).trans (fS k eK);obtain ⟨x,hx⟩:∃ x,Hid (x=l1[k]):=⟨_,U rfl⟩;obtain ⟨y,hy⟩:∃ y,Hid (y=l2[k]):=⟨_,U rfl⟩;rw [<- hx.u] at c0;rw [<- hy.u] at c2
    have bZ:(k:Int)<(l1.length:Int):=by omega
    clear hc hb fS df
    by_cases he:x=y
    ·have e1:(x != y)=false:=by simp [he]
     have HE:=U he;go_upto_region 6 with fail
     go_quiet (fail)
     have vC:=U (Rg.drewN b_.u nq);generalize wr.drewN nq=wq at *;go_wp2
     go_roundw
     case rel =>
      refine ⟨k+1,by omega,by go_num,U ?_,vC⟩;rw [List.take_succ_eq_append_getElem aw,List.take_succ_eq_append_getElem eK,hs.u,<- hx.u,<- hy.u,HE.u]
     case measure=>simp [intOf]; omega
    ·have e1:(x != y)=true:=by simp [he]
     have hm:decide (l1=l2)=false:=by
      rw [decide_eq_false_iff_not];intro e;subst e;exact he (hx.u.trans hy.u.symm)
     have HM:=U hm;clear hm;go_upto_region 6 with fail
     go_quiet (fail)
     have vC:=U (Rg.drewN b_.u nq);generalize wr.drewN nq=wq at *;go_wp2;go_ret;exact ⟨by rw [HM.u]; rfl,vC.u⟩
   ·obtain rfl:k=l1.length:=by omega
    have hm:decide (l1=l2)=true:=by
     rw [decide_eq_true_iff];have:=hs.u
     rwa [List.take_length,q9.u,List.take_length] at this
    have HM:=U hm;clear hm;go_wp2;go_ret;exact ⟨by rw [HM.u]; rfl,b_.u⟩
 ·have hb:((l1.length:Int) != (l2.length:Int))=true:=by rw [bne_iff_ne]; omega
  have hm:decide (l1=l2)=false:=by
   rw [decide_eq_false_iff_not];intro e;subst e;exact hne rfl
  have HM:=U hm;have q9:=U hne;clear hm hne
  go_enter Tryz.func131,Tryz.ntmps131
  go_wp2;go_ret;exact ⟨by rw [HM.u]; rfl,Below.refl _ _⟩
theorem Fu {F:FuncId} {w:World} {va vb:Value} {A B:List (List Int)} (h1:Rg.Rows w va A) (h2:Rg.Rows w vb B)
  (hF:∀ (v1 v2:Value) (l1 l2:List Int) (W:World),Rg.Ints W v1 l1->Rg.Ints W v2 l2->Calls Tryz.prog F #[v1,v2] W fun e w'=>e=.returned (.bool (decide (l1=l2)))/\Below W.heap.size W w') :
  ∃ us vs,Rg.cN w va us/\Rg.cN w vb vs/\us.length=A.length/\vs.length=B.length/\yT F w us vs (fun i=>decide (A.getD i []=B.getD i [])):=by
 obtain ⟨us,a1,a2,a3⟩:=h1;obtain ⟨vs,b1,b2,b3⟩:=h2;refine ⟨us,vs,a1,b1,a2,b2,fun i hi hj W hb=>?_⟩
 have e1:A.getD i []=A[i]'(by omega):=by rw [List.getD_eq_getElem?_getD,List.getElem?_eq_getElem (by omega)]; rfl
 have e2:B.getD i []=B[i]'(by omega):=by rw [List.getD_eq_getElem?_getD,List.getElem?_eq_getElem (by omega)]; rfl
 dsimp only
 rw [e1,e2];exact hF _ _ _ _ W ((a3 i hi (by omega)).p hb) ((b3 i hj (by omega)).p hb)
theorem Lb {A B:List (List Int)}:jJ A.length B.length (fun i=>decide (A.getD i []=B.getD i []))=decide (A=B) :=
 yU fun i h1 h2=>by
  have e1:A.getD i []=A[i]:=by rw [List.getD_eq_getElem?_getD,List.getElem?_eq_getElem h1]; rfl
  have e2:B.getD i []=B[i]:=by rw [List.getD_eq_getElem?_getD,List.getElem?_eq_getElem h2]; rfl
  rw [e1,e2]
theorem MP {F:FuncId} {w:World} {va vb:Value} {A B:List (List (List Int))} (h1:fO w va A) (h2:fO w vb B)
  (hF:∀ (v1 v2:Value) (l1 l2:List (List Int)) (W:World),Rg.Rows W v1 l1->Rg.Rows W v2 l2->Calls Tryz.prog F #[v1,v2] W fun e w'=>e=.returned (.bool (decide (l1=l2)))/\Below W.heap.size W w') :
  ∃ us vs,Rg.cN w va us/\Rg.cN w vb vs/\us.length=A.length/\vs.length=B.length/\yT F w us vs (fun i=>decide (A.getD i []=B.getD i [])):=by
 obtain ⟨us,a1,a2,a3⟩:=h1;obtain ⟨vs,b1,b2,b3⟩:=h2;refine ⟨us,vs,a1,b1,a2,b2,fun i hi hj W hb=>?_⟩
 have e1:A.getD i []=A[i]'(by omega):=by rw [List.getD_eq_getElem?_getD,List.getElem?_eq_getElem (by omega)]; rfl
 have e2:B.getD i []=B[i]'(by omega):=by rw [List.getD_eq_getElem?_getD,List.getElem?_eq_getElem (by omega)]; rfl
 dsimp only
 rw [e1,e2];exact hF _ _ _ _ W ((a3 i hi (by omega)).p hb) ((b3 i hj (by omega)).p hb)
theorem PU {A B:List (List (List Int))}:jJ A.length B.length (fun i=>decide (A.getD i []=B.getD i []))=decide (A=B) :=
 yU fun i h1 h2=>by
  have e1:A.getD i []=A[i]:=by rw [List.getD_eq_getElem?_getD,List.getElem?_eq_getElem h1]; rfl
  have e2:B.getD i []=B[i]:=by rw [List.getD_eq_getElem?_getD,List.getElem?_eq_getElem h2]; rfl
  rw [e1,e2]
theorem Dp (args:Array Value) (w:World):(callFunc 126 args).run Tryz.prog w=.ok (.enter 126 args) w:=by kernel_rfl
theorem aaa (args:Array Value) (w:World):(callFunc 128 args).run Tryz.prog w=.ok (.enter 128 args) w:=by kernel_rfl
theorem Wz (args:Array Value) (w:World):(callFunc 130 args).run Tryz.prog w=.ok (.enter 130 args) w:=by kernel_rfl
theorem Fv (v1 v2:Value) (l1 l2:List Int) (w:World) (h1:Rg.Ints w v1 l1) (h2:Rg.Ints w v2 l2) :
  Calls Tryz.prog 130 #[v1,v2] w fun e w'=>e=.returned (.bool (decide (l1=l2)))/\Below w.heap.size w w':=by
 have H1:=U h1;have H2:=U h2;have K:=U (Below.refl w.heap.size w);clear h1 h2;obtain ⟨b,lI⟩:∃ b,Hid (decide (l1=l2)=b):=⟨_,U rfl⟩
 go_enter Tryz.func130,Tryz.ntmps130
 go_upto_region 1 with fail
 refine b6<|j5 (v1) rfl<|j5 (v2) rfl ?_;go_frame
 refine f3 7 (aC 131 _ _ _ rfl rfl rfl (PR _ _)) ?_;refine (show Calls _ _ _ _ (fun e w'=>e=.returned (.bool b)/\Below w.heap.size w w') by rw [<- lI.u]; exact t_ _ _ _ _ w H1.u H2.u).mono ?_;rintro e1 w1 ⟨rfl,hb⟩;refine ⟨_,rfl,?_⟩;go_frame;replace H1:=U (H1.u.p hb);replace H2:=U (H2.u.p hb);replace K:=U (Rg.acc K.u hb);clear hb;refine j9 rfl ?_;go_frame;go_wp2;go_ret;exact ⟨by rw [lI.u]; rfl,K.u⟩
theorem Jn (v1 v2:Value) (l1 l2:List (List Int)) (w:World) (h1:Rg.Rows w v1 l1) (h2:Rg.Rows w v2 l2) :
  Calls Tryz.prog 128 #[v1,v2] w fun e w'=>e=.returned (.bool (decide (l1=l2)))/\Below w.heap.size w w':=by
 obtain ⟨us,vs,hu,hv,e1,e2,jX⟩:=Fu h1 h2 (F:=130) Fv;have HC:=U (Dn hu hv _ Wz jX);rw [e1,e2,Lb] at HC;have K:=U (Below.refl w.heap.size w);clear h1 h2 hu hv e1 e2 jX;obtain ⟨b,lI⟩:∃ b,Hid (decide (l1=l2)=b):=⟨_,U rfl⟩;rw [lI.u] at HC ⊢
 go_enter Tryz.func128,Tryz.ntmps128
 go_upto_region 1 with fail
 refine b6<|j5 (v1) rfl<|j5 (v2) rfl ?_;go_frame
 refine f3 7 (cu 129 _ _ _ _ rfl rfl rfl rfl (Wx _ _)) ?_;refine (HC.u).mono ?_;rintro e1 w1 ⟨rfl,hb⟩;refine ⟨_,rfl,?_⟩;go_frame;replace K:=U (Rg.acc K.u hb);clear hb;refine j9 rfl ?_;go_frame;go_wp2;go_ret;exact ⟨rfl,K.u⟩
theorem qd (v1 v2:Value) (A B:List (List Int)) (w:World) (h1:Rg.Rows w v1 A) (h2:Rg.Rows w v2 B) {b:Bool} (hb:Hid (decide (A=B)=b)) :
  Calls Tryz.prog 125 #[v1,v2,.func (.func 126) #[] #[]] w fun e w'=>e=.returned (.bool b)/\Below w.heap.size w w':=by
 obtain ⟨us,vs,hu,hv,e1,e2,jX⟩:=Fu h1 h2 (F:=126) mj;have HC:=Dk hu hv _ Dp jX;rw [e1,e2,Lb,hb.u] at HC;exact HC
theorem yV (v1 v2:Value) (A B:List (List (List Int))) (w:World) (h1:fO w v1 A) (h2:fO w v2 B) {b:Bool} (hb:Hid (decide (A=B)=b)) :
  Calls Tryz.prog 127 #[v1,v2,.func (.func 128) #[] #[]] w fun e w'=>e=.returned (.bool b)/\Below w.heap.size w w':=by
 obtain ⟨us,vs,hu,hv,e1,e2,jX⟩:=MP h1 h2 (F:=128) Jn;have HC:=Dm hu hv _ aaa jX;rw [e1,e2,PU,hb.u] at HC;exact HC
theorem dX (w:World) (x y z:Value):CL (w.alloc (.cells #[x,y,z] 25)) w.heap.size 0 x/\CL (w.alloc (.cells #[x,y,z] 25)) w.heap.size 1 y/\CL (w.alloc (.cells #[x,y,z] 25)) w.heap.size 2 z :=
 ⟨⟨by rw [Rg.aT]; rfl,by simp⟩,⟨by rw [Rg.aT]; rfl,by simp⟩,⟨by rw [Rg.aT]; rfl,by simp⟩⟩
def ba (w:World) (ov rv:Value) (OO:List (List Int)) (RR:List (List (List Int))):Prop:=Rg.Rows w ov OO/\fO w rv RR
theorem ba.p {w w':World} {ov rv:Value} {OO:List (List Int)} {RR:List (List (List Int))} (h:ba w ov rv OO RR) (hb:Below w.heap.size w w'):ba w' ov rv OO RR:=⟨h.1.p hb,h.2.p hb⟩
theorem Fw {n m:Int} {q_ sC:Value} {nK:List (List Int)} {iD:List (List (List Int))} {w:World} (h1:ba w ov rv OO RR) (h2:ba w q_ sC nK iD) :
  Calls Tryz.prog 96 #[.agg #[.int .i64 n,ov,rv],.agg #[.int .i64 m,q_,sC]] w fun e w'=>e=.returned (.bool (decide (n=m/\OO=nK/\RR=iD)))/\Below w.heap.size w w':=by
 have H1:=U h1;have H2:=U h2;have K:=U (Below.refl w.heap.size w);clear h1 h2
 go_enter Tryz.func96,Tryz.ntmps96
 go_upto_region 0 with fail;refine b6 ?_;have aJ:=dX w (.int .i64 n) ov rv;refine k5 (Rg.aS _ _ rfl rfl) ?_;go_frame;have hb:Below w.heap.size w (w.alloc (.cells #[.int .i64 n,ov,rv] 25)):=(Below.refl _ _).alloc (Nat.le_refl _) _;generalize w.alloc (.cells #[.int .i64 n,ov,rv] 25)=w1 at *;replace H1:=U (H1.u.p hb);replace H2:=U (H2.u.p hb);replace K:=U (Rg.acc K.u hb);clear hb;have A0:=U aJ.1;have A1:=U aJ.2.1;have A2:=U aJ.2.2;clear aJ;have aJ:=dX w1 (.int .i64 m) q_ sC;refine k5 (Rg.aS _ _ rfl rfl) ?_;go_frame;have hb:Below w1.heap.size w1 (w1.alloc (.cells #[.int .i64 m,q_,sC] 25)):=(Below.refl _ _).alloc (Nat.le_refl _) _;generalize w1.alloc (.cells #[.int .i64 m,q_,sC] 25)=w2 at *;replace H1:=U (H1.u.p hb);replace H2:=U (H2.u.p hb);replace A0:=U (A0.u.p hb);replace A1:=U (A1.u.p hb)
 replace A2:=U (A2.u.p hb);replace K:=U (Rg.acc K.u hb);clear hb;have B0:=U aJ.1;have B1:=U aJ.2.1;have B2:=U aJ.2.2;clear aJ;refine j9 rfl ?_;go_frame
 by_cases PV:n=m
 ·obtain ⟨b1,bW⟩:∃ b,Hid (decide (OO=nK)=b):=⟨_,U rfl⟩
  obtain ⟨b2,df⟩:∃ b,Hid (decide (RR=iD)=b):=⟨_,U rfl⟩;have HE:=U (show decide (n=m/\OO=nK/\RR=iD)=(b1 && b2) by rw [<- bW.u,<- df.u]; simp [PV])
  cases b1 with
  | true =>
   go_upto_region 1 with fail
   refine b6<|k5 (j0 (cP _ _))<|k5 (g7 (.int .i64 n) ⟨w.heap.size,0,none⟩ (af A0.u.cell))<|k5 (j0 (cP _ _))<|k5 (g7 (.int .i64 m) ⟨w1.heap.size,0,none⟩ (af B0.u.cell)) ?_;go_frame
   refine k5 (g8 (.bool true) .eql (h:=fa _ (decide_eq_true PV)))<|j9 rfl<|k5 (j0 (cn _ _))<|k5 (g7 (ov) ⟨w.heap.size,1,none⟩ (Rg.ae _ _ Tryz.underlying22 A1.u.cell))<|k5 (j0 (cn _ _)) ?_;go_frame
   refine k5 (g7 (q_) ⟨w1.heap.size,1,none⟩ (Rg.ae _ _ Tryz.underlying22 B1.u.cell)) ?_;go_frame;refine eD (some 15) rfl rfl _ _ (cu 125 _ _ _ _ rfl rfl rfl rfl (PT _ _)) ?_;refine (qd _ _ _ _ w2 H1.u.1 H2.u.1 bW).mono ?_;rintro e1 w3 ⟨rfl,hb⟩;refine ⟨_,rfl,?_⟩;go_frame;replace H1:=U (H1.u.p hb);replace H2:=U (H2.u.p hb);replace A0:=U (A0.u.p hb);replace A1:=U (A1.u.p hb);replace A2:=U (A2.u.p hb);replace B0:=U (B0.u.p hb);replace B1:=U (B1.u.p hb);replace B2:=U (B2.u.p hb);replace K:=U (Rg.acc K.u hb);clear hb
   refine k5 (i4 (.bool true))<|j9 rfl<|k5 (j0 (cK _ _))<|k5 (g7 (rv) ⟨w.heap.size,2,none⟩ (Rg.ae _ _ Tryz.underlying23 A2.u.cell))<|k5 (j0 (cK _ _)) ?_;go_frame
   refine k5 (g7 (sC) ⟨w1.heap.size,2,none⟩ (Rg.ae _ _ Tryz.underlying23 B2.u.cell)) ?_;go_frame;refine eD (some 22) rfl rfl _ _ (cu 127 _ _ _ _ rfl rfl rfl rfl (Wy _ _)) ?_;refine (yV _ _ _ _ w3 H1.u.2 H2.u.2 df).mono ?_;rintro e1 w4 ⟨rfl,hb⟩;refine ⟨_,rfl,?_⟩;go_frame;replace H1:=U (H1.u.p hb);replace H2:=U (H2.u.p hb);replace A0:=U (A0.u.p hb);replace A1:=U (A1.u.p hb);replace A2:=U (A2.u.p hb);replace B0:=U (B0.u.p hb);replace B1:=U (B1.u.p hb);replace B2:=U (B2.u.p hb);replace K:=U (Rg.acc K.u hb);clear hb
   refine k5 (i4 (.bool b2))<|j9 rfl ?_;go_frame
   go_wp2;go_ret;exact ⟨by rw [HE.u]; rfl,K.u⟩
  | false =>
   go_upto_region 1 with fail
   refine b6<|k5 (j0 (cP _ _))<|k5 (g7 (.int .i64 n) ⟨w.heap.size,0,none⟩ (af A0.u.cell))<|k5 (j0 (cP _ _))<|k5 (g7 (.int .i64 m) ⟨w1.heap.size,0,none⟩ (af B0.u.cell)) ?_;go_frame
   refine k5 (g8 (.bool true) .eql (h:=fa _ (decide_eq_true PV)))<|j9 rfl<|k5 (j0 (cn _ _))<|k5 (g7 (ov) ⟨w.heap.size,1,none⟩ (Rg.ae _ _ Tryz.underlying22 A1.u.cell))<|k5 (j0 (cn _ _)) ?_;go_frame
   refine k5 (g7 (q_) ⟨w1.heap.size,1,none⟩ (Rg.ae _ _ Tryz.underlying22 B1.u.cell)) ?_;go_frame;refine eD (some 15) rfl rfl _ _ (cu 125 _ _ _ _ rfl rfl rfl rfl (PT _ _)) ?_;refine (qd _ _ _ _ w2 H1.u.1 H2.u.1 bW).mono ?_;rintro e1 w3 ⟨rfl,hb⟩;refine ⟨_,rfl,?_⟩;go_frame;replace H1:=U (H1.u.p hb);replace H2:=U (H2.u.p hb);replace A0:=U (A0.u.p hb);replace A1:=U (A1.u.p hb);replace A2:=U (A2.u.p hb);replace B0:=U (B0.u.p hb);replace B1:=U (B1.u.p hb);replace B2:=U (B2.u.p hb);replace K:=U (Rg.acc K.u hb);clear hb
   refine k5 (i4 (.bool false))<|j9 rfl<|f9 18<|f9 19<|f9 20 ?_;go_frame
   refine f9 21<|f9 22<|k5 (i3 (.bool false))<|j9 rfl ?_;go_frame
   go_wp2;go_ret;exact ⟨by rw [HE.u]; rfl,K.u⟩
 ·have HE:=U (show decide (n=m/\OO=nK/\RR=iD)=false by simp [PV])
  go_upto_region 1 with fail
  refine b6<|k5 (j0 (cP _ _))<|k5 (g7 (.int .i64 n) ⟨w.heap.size,0,none⟩ (af A0.u.cell))<|k5 (j0 (cP _ _))<|k5 (g7 (.int .i64 m) ⟨w1.heap.size,0,none⟩ (af B0.u.cell)) ?_;go_frame
  refine k5 (g8 (.bool false) .eql (h:=fa _ (decide_eq_false PV)))<|j9 rfl<|f9 11<|f9 12<|f9 13 ?_;go_frame
  refine f9 14<|f9 15<|k5 (i3 (.bool false))<|j9 rfl<|f9 18 ?_;go_frame
  refine f9 19<|f9 20<|f9 21<|f9 22<|k5 (i3 (.bool false)) ?_;go_frame
  refine j9 rfl ?_;go_frame;go_wp2;go_ret;exact ⟨by rw [HE.u]; rfl,K.u⟩
end
end Go.Proofs.YtpedbljnhnoohaaGreat
namespace Go.Proofs.Rg
open Go Go.RowKit
theorem aE {l:Nat} {P:Program} {ops:Array Oper} {rest:List Oper} {o:Oper} {a:Act} {w:World} {Q:Exit->Act->World->Prop} (d:Option Tmp) (hg:o.guard=none) (hd:o.dst=d) (hnd:∀ c,o.op≠.defer c)
  (hr:(execOp a.eval o).run P w=.ok (.value v) w') (h:wpListIn (Fence.wide.inRound l) n P ops Q rest (a.put d v) w'):wpListIn (Fence.wide.inRound l) n P ops Q (o :: rest) a w:=by
 subst hd;refine wpListIn_plain hg fun K hK=>⟨fun _ _=>trivial,?_⟩;rw [Oper.semAt_eq _ _ _ hnd,hr];exact hK _ _ h
theorem gW {l:Nat} {P:Program} {ops:Array Oper} {rest:List Oper} {o:Oper} {a:Act} {w:World} {Q:Exit->Act->World->Prop} (d:Option Tmp) (hg:o.guard=none) (hd:o.dst=d) (hnd:∀ c,o.op≠.defer c)
  (hr:(execOp a.eval o).run P w=.ok .skip w') (h:wpListIn (Fence.wide.inRound l) n P ops Q rest (a.put d undef) w'):wpListIn (Fence.wide.inRound l) n P ops Q (o :: rest) a w:=by
 subst hd;refine wpListIn_plain hg fun K hK=>⟨fun _ _=>trivial,?_⟩;rw [Oper.semAt_eq _ _ _ hnd,hr];exact hK _ _ h
theorem qR {l:Nat} {P:Program} {ops:Array Oper} {rest:List Oper} {o:Oper} {a:Act} {w:World} {Q:Exit->Act->World->Prop} (d:Option Tmp) (hg:o.guard=none) (hd:o.dst=d) (hnd:∀ c,o.op≠.defer c) (f:FuncId) (args:Array Value)
  (hr:(execOp a.eval o).run P w=.ok (.enter f args) w) (h:Calls P f args w fun e w'=>∃ v,e=.returned v/\wpListIn (Fence.wide.inRound l) n P ops Q rest (a.put d v) w'):wpListIn (Fence.wide.inRound l) n P ops Q (o :: rest) a w:=by
 subst hd;refine wpListIn_plain hg fun K hK=>⟨fun _ _=>trivial,?_⟩;rw [Oper.semAt_eq _ _ _ hnd,hr];refine ⟨(fun hh=>by cases hh),(CallsIn.inRound l (callsIn_wide.2 h)).mono ?_⟩;rintro e w' ⟨v,rfl,hv⟩;exact hK _ _ hv
theorem d_ {l:Nat} {P:Program} {ops:Array Oper} {rest:List Oper} {o:Oper} {a:Act} {w:World} {Q:Exit->Act->World->Prop} (d:Option Tmp) (hw:Region.wanted o (yielded ops a.tmps)=true) (hd:o.dst=d) (hnd:∀ c,o.op≠.defer c)
  (hr:(execOp a.eval o).run P w=.ok (.value v) w') (h:wpListIn (Fence.wide.inRound l) n P ops Q rest (a.put d v) w'):wpListIn (Fence.wide.inRound l) n P ops Q (o :: rest) a w:=by
 subst hd;refine wpListIn_step fun K hK=>?_;rw [if_pos hw];refine ⟨fun _ _=>trivial,?_⟩;rw [Oper.semAt_eq _ _ _ hnd,hr];exact hK _ _ h
theorem Fy {l:Nat} {P:Program} {ops:Array Oper} {rest:List Oper} {o:Oper} {a:Act} {w:World} {Q:Exit->Act->World->Prop} (d:Option Tmp) (hw:Region.wanted o (yielded ops a.tmps)=true) (hd:o.dst=d) (hnd:∀ c,o.op≠.defer c) (f:FuncId) (args:Array Value)
  (hr:(execOp a.eval o).run P w=.ok (.enter f args) w) (h:Calls P f args w fun e w'=>∃ v,e=.returned v/\wpListIn (Fence.wide.inRound l) n P ops Q rest (a.put d v) w'):wpListIn (Fence.wide.inRound l) n P ops Q (o :: rest) a w:=by
 subst hd;refine wpListIn_step fun K hK=>?_;rw [if_pos hw];refine ⟨fun _ _=>trivial,?_⟩;rw [Oper.semAt_eq _ _ _ hnd,hr];refine ⟨(fun hh=>by cases hh),(CallsIn.inRound l (callsIn_wide.2 h)).mono ?_⟩;rintro e w' ⟨v,rfl,hv⟩;exact hK _ _ hv
theorem il {l:Nat} {P:Program} {ops:Array Oper} {rest:List Oper} {o:Oper} {a:Act} {w:World} {Q:Exit->Act->World->Prop} (d:Option Tmp) (hw:Region.wanted o (yielded ops a.tmps)=false) (hd:o.dst=d)
  (h:wpListIn (Fence.wide.inRound l) n P ops Q rest (a.put d undef) w):wpListIn (Fence.wide.inRound l) n P ops Q (o :: rest) a w:=by
 subst hd;unfold wpListIn;rw [if_neg (by rw [hw]; decide)];exact ⟨fun _ _=>trivial,h⟩
def Dq (Q:Exit->Act->World->Prop):Exit->Act->World->Prop
 | .normal,a,w=>Q .normal a w
 | _,_,_=>False
theorem Bw {P:Program} {c:Code} {Q:Exit->Act->World->Prop} {a:Act} {w:World} (h:c.wp P (Dq Q) a w):c.wp P Q a w :=
 wp_mono h fun e a w hq=>by cases e <;> first | exact hq | exact hq.elim
theorem nL {Q:Exit->Act->World->Prop} {a:Act} {w:World} (h:Q .normal a w):Dq Q .normal a w:=h
end Go.Proofs.Rg
namespace Go.Proofs.YtpedbljnhnoohaaGreat
open Go.RowKit
open Go.Proofs
open Go.Shelf
attribute [local go_sem] Oper.semAt_some
def eh (m k:Nat):List (Fin m):=(List.finRange m).take k
theorem ml {m k:Nat} (h:k<m):eh m (k+1)=eh m k++[⟨k,h⟩]:=by
 unfold eh;rw [List.take_succ_eq_append_getElem (by rw [List.length_finRange]; exact h)];simp
theorem yX {m k:Nat} (h:k<=m):(eh m k).length=k:=by
 unfold eh;rw [List.length_take,List.length_finRange];omega
theorem Fz (m:Nat):eh m 0=[]:=rfl
theorem Jo (m:Nat):eh m m=List.finRange m:=by
 unfold eh;rw [List.take_of_length_le (by rw [List.length_finRange]; exact Nat.le_refl _)]
theorem MQ (F:Fence) (n:Nat) (h7:F.fn 97) (hro:F.round=none) (hn:1<=n) (l Bs n₀ m cap:Nat) (ad:Option Addr) (RV:Nat->Value) (hm:m<=1000000000) (PW:0<m->∃ b off,ad=some ⟨b,off,none⟩/\b<n₀) (J Jx:List (Fin m)->World->Prop)
  (hY:∀ pre x W,J pre W->pre.length<m->YieldAt F (n - 1) Tryz.prog l #[.int .i64 ((x.1:Nat):Int),RV x.1] W fun e W' =>
   (e=.returned (.bool true)/\J (pre++[x]) W'/\Below n₀ W W')∨(e=.returned (.bool false)/\Jx (pre++[x]) W'))
  (W:World) (yD:W.cell? ⟨Bs,2,none⟩=some (.slice ad m cap)) (hc:∀ b off,ad=some ⟨b,off,none⟩->∀ j,j<m->W.cell? ⟨b,off+j,none⟩=some (RV j)) (h0:J [] W) :
  CallsIn F n Tryz.prog 97 #[.func (.yield l) #[] #[],.pointer (some ⟨Bs,0,none⟩)] W fun e W'=>(∃ v,e=.returned v) /\
   ((∃ ys,ys=eh m m/\J ys W')∨(∃ pre,(∃ k,k<=m/\pre=eh m k)/\Jx pre W')):=by
 refine callsIn_of_wp Tryz.func97 rfl h7 ?_ hro;simp only [Tryz.ntmps97,List.size_toArray,List.length_cons,List.length_nil,Nat.reduceAdd,Nat.reduceSub,Array.replicate_succ,Array.replicate_zero,List.push_toArray,List.append_toArray,List.nil_append,List.cons_append]
 gi_wp2
 gi_loopw [8] (fun i wr=>∃ k:Nat,k<=m/\i=.int .i64 k/\J (eh m k) wr/\Below n₀ W wr)
  (fun i _=>m - (intOf i).toNat)
 case atStart=>exact ⟨0,Nat.zero_le _,rfl,h0,Below.refl _ _⟩
 case round =>
  obtain ⟨k,hk,rfl,OJ,OL⟩:=hrel
  by_cases aw:k<m
  ·obtain ⟨b,off,rfl,hb⟩:=PW (by omega)
   have yE:wr.cell? ⟨b,off+k,none⟩=some (RV k):=(OL.cell (p:=⟨b,off+k,none⟩) hb).trans (hc b off rfl k aw);obtain ⟨fn,tmps,assign,body,hy,hR⟩:=hY _ ⟨k,aw⟩ wr OJ (by rw [yX hk]; exact aw)
   dsimp only at hy
   gi_wp2
   refine hR.mono ?_
   rintro e W3 (⟨rfl,VW,jz⟩ | ⟨rfl,OM⟩)
   ·gi_wp2
    go_roundw
    case rel=>exact ⟨k+1,by omega,by simp,by rw [ml aw]; exact VW,OL.trans jz⟩
    case measure=>simp [intOf]; omega
   ·gi_wp2
    refine bodyPost_ret (results_none rfl _ _ _) rfl ?_;exact ⟨⟨_,rfl⟩,.inr ⟨_,⟨k+1,by omega,(ml aw).symm⟩,OM⟩⟩
  ·obtain rfl:k=m:=by omega
   gi_wp2
   go_end0
   exact ⟨⟨_,rfl⟩,.inl ⟨_,rfl,OJ⟩⟩
end Go.Proofs.YtpedbljnhnoohaaGreat
namespace Go.Proofs.RF
open Go Go.RowKit
def eX (D:Nat) (W:World):Prop:=W.heap[D]?=some (.deferred (some []))
theorem eX.size {D:Nat} {W:World} (h:eX D W):D<W.heap.size:=(Array.getElem?_eq_some_iff.1 h).1
theorem eX.oz (h:eX D W) (hb:Below W.heap.size W W'):eX D W':=(hb.block D h.size).trans h
theorem eX.alloc {D:Nat} {W:World} (h:eX D W) (o:Obj):eX D (W.alloc o):=(Below.heap_alloc W o D h.size).trans h
theorem eX.drew {D:Nat} {W:World} (h:eX D W):eX D W.drew:=h
theorem eX.setCell {D:Nat} {W:World} (h:eX D W) (a:Addr) (v:Value):eX D (W.setCell a v) :=
 (KeepsOthers.setCell W a v).same D _ h rfl
theorem eX.cell {D:Nat} {o:Option (List Deferred)} {W:World} (h:eX D W) (a:Addr):(W.putObj D (.deferred o)).cell? a=W.cell? a:=by
 unfold World.cell?
 by_cases e:a.block=D
 ·rw [e,World.putObj_heap_same h.size,show W.heap[D]?=_ from h]
 ·rw [World.putObj_heap_other e]
theorem eX.frozen {D:Nat} {o:Option (List Deferred)} {W:World} (h:eX D W) (a:Addr):(W.putObj D (.deferred o)).frozen? a=W.frozen? a:=by
 unfold World.frozen?
 by_cases e:a.block=D
 ·rw [e,World.putObj_heap_same h.size,show W.heap[D]?=_ from h]
 ·rw [World.putObj_heap_other e]
def mark (D:Nat):Deferred:={ target:=.collected D,args:=#[] }
theorem leaves {n:Nat} {P:Program} {fn:Func} {tmps:Array Value} {R:Ending->World->Prop} (B:Nat):∀ (ds:List Nat) (W:World),ds.Nodup->(∀ D,D∈ds->eX D W/\B<=D) ->
  (∀ W',Below B W W'->(∀ a,W'.cell? a=W.cell? a)->(∀ a,W'.frozen? a=W.frozen? a)->∃ v,(results fn tmps).run P W'=.ok v W'/\R (.returned v) W') ->
  LeavesInM Fence.wide n P fn tmps R (ds.map mark) .returning W
 | [],W,_,_,h=>h W (Below.refl _ _) (fun _=>rfl) (fun _=>rfl)
 | D :: ds,W,hn,hD,h=>by
  rw [List.nodup_cons] at hn;obtain ⟨hd,hB⟩:=hD D (by simp);have hb:Below B W (W.putObj D (.deferred none)):=⟨rfl,rfl,rfl,by simp,fun k hk=>World.putObj_heap_other (by omega)⟩;refine ⟨by simp,.inl ⟨D,_,rfl,run_takeDeferred hd,leaves B ds _ hn.2 (fun D' iE=>?_) (fun W' h1 h2 h3=>?_)⟩⟩
  ·refine ⟨(World.putObj_heap_other ?_).trans (hD D' (by simp [iE])).1,(hD D' (by simp [iE])).2⟩
   intro e; exact hn.1 (e▸iE)
  ·exact h W' (hb.trans h1) (fun a=>(h2 a).trans (hd.cell a)) (fun a=>(h3 a).trans (hd.frozen a))
theorem im {P:Program} {f:FuncId} {fn:Func} {c:Code} {args:Array Value} {w:World} {R:Ending->World->Prop}
  (hf:P.funcs[f]?=some fn) (hb:fn.body=some c)
  (h:c.wp P (bodyPostM Fence.wide 0 P fn R) { tmps:=args++Array.replicate (fn.ntmps - args.size) undef,defers:=[] } w):Calls P f args w R :=
 callsIn_wide.1 (callsIn_of_wp_marks (n:=0) hf hb trivial (wpIn_wide.2 h))
end Go.Proofs.RF
namespace Go.Proofs.YtpedbljnhnoohaaGreat
open Go.Proofs
section
open Go.RowKit
open Go.Shelf
attribute [local irreducible] Go.Calls Go.wpList
structure KK (B n₀:Nat) (W W':World):Prop where
 keeps:KeepsFrom B W W'
 dP:Below n₀ W W'
 le:n₀<=W.heap.size
theorem KK.refl {B n₀:Nat} {W:World} (h:n₀<=W.heap.size):KK B n₀ W W:=⟨KeepsFrom.refl _ _,Below.refl _ _,h⟩
theorem KK.acc {r_:World} (h:KK B n₀ W W') (hb:Below W'.heap.size W' r_):KK B n₀ W r_ :=
 ⟨h.keeps.trans ⟨hb.size,fun k o _ hk _=>(hb.block k (Array.getElem?_eq_some_iff.1 hk).1).trans hk⟩,h.dP.trans (hb.mono (Nat.le_trans h.le h.dP.size)),h.le⟩
theorem KK.set (h:KK B n₀ W W') {b o:Nat} (v:Value) (hb:n₀<=b):KK B n₀ W (W'.setCell ⟨b,o,none⟩ v) :=
 ⟨h.keeps.trans ((KeepsOthers.setCell _ _ _).from _),h.dP.setCell (p:=⟨b,o,none⟩) hb v,h.le⟩
theorem KK.grown {B n₀:Nat} {W W' r_:World} (h:KK B n₀ W W') {e:TypeId} {v:Value} {n size:Nat} {xs:List Value} (hr:W'.ownsRow n₀ e size v n xs) (hg:W'.grownBy r_ v.ownBlock):KK B n₀ W r_ :=
 ⟨h.keeps.trans ((KeepsOthers.of_grownBy hg (fun j o e1 e2=>by
  obtain ⟨_,h2⟩:=hr
  rcases h2 with ⟨h3,_⟩ | ⟨g,cap,cur,h3,tN,hc,_⟩
  ·rw [h3] at e1; simp [Value.ownBlock] at e1
  ·rw [h3] at e1
   simp [Value.ownBlock] at e1;subst e1;rw [hc] at e2
   cases e2; rfl)).from _),h.dP.grown hg (Nat.le_trans h.le h.dP.size) (fun j hj=>(hr.lt j hj).1),h.le⟩
theorem vL (n:Int) (ov rv:Value) (w:World) :
  Calls Tryz.prog 74 #[.agg #[.int .i64 n,ov,rv]] w fun e w'=>∃ fb,e=.returned (.func (.func 97) #[] #[.pointer (some ⟨fb,0,none⟩)])/\CL w' fb 2 rv/\Below w.heap.size w w':=by
 go_enter Tryz.func74,Tryz.ntmps74
 have aJ:=dX w (.int .i64 n) ov rv;go_upto_region 0 with fail
 refine b6<|k5 (Rg.aS _ _ rfl rfl) ?_;go_frame
 have hb:Below w.heap.size w (w.alloc (.cells #[.int .i64 n,ov,rv] 25)):=(Below.refl _ _).alloc (Nat.le_refl _) _;generalize w.alloc (.cells #[.int .i64 n,ov,rv] 25)=w1 at *;have H:=U aJ.2.2;have K:=U hb;clear aJ hb;go_wp2;go_ret;exact ⟨_,rfl,H.u,K.u⟩
structure Dr (n₀:Nat) (w:World) (ad:Option Addr) (m:Nat) (RV:Nat->Value):Prop where
 le:m<=1000000000
 PW:0<m->∃ b off,ad=some ⟨b,off,none⟩/\b<n₀
 cells:∀ b off,ad=some ⟨b,off,none⟩->∀ j,j<m->w.cell? ⟨b,off+j,none⟩=some (RV j)
 sz:n₀<=w.heap.size
theorem Dr.p {w:World} {ad:Option Addr} {m:Nat} {RV:Nat->Value} (h:Dr n₀ w ad m RV) (hb:Below n₀ w w'):Dr n₀ w' ad m RV :=
 ⟨h.le,h.PW,fun b off e j hj=>by
  obtain ⟨b',aaV,e',aw⟩:=h.PW (by omega);rw [e] at e';simp only [Option.some.injEq,Addr.mk.injEq,and_true] at e';obtain ⟨rfl,rfl⟩:=e'
  exact (hb.cell (p:=⟨b,off+j,none⟩) aw).trans (h.cells b off e j hj),Nat.le_trans h.sz hb.size⟩
theorem wY {w:World} {m cap fb:Nat} {ad:Option Addr} {RV:Nat->Value} (h:Dr n₀ w ad m RV) (mR:CL w fb 2 (.slice ad m cap)) (n:Nat) (hn:1<=n) :
  SeqStopsK Fence.wide n Tryz.prog 97 #[.pointer (some ⟨fb,0,none⟩)] (fun x:Fin m=>#[Value.int .i64 ((x.1:Nat):Int),RV x.1]) (Below n₀) (fun ys=>ys=eh m m) (fun pre=>∃ k,k<=m/\pre=eh m k) m w:=fun l J Jx W hW _ _ hY h0=>by
 have h':=h.p (hW.mono h.sz);exact MQ Fence.wide n trivial rfl hn l fb n₀ m cap ad RV h.le h.PW J Jx hY W ((hW.cell (p:=⟨fb,2,none⟩) mR.lt).trans mR.cell) h'.cells h0
theorem wZ {g:Operand} {ps:Array Go.Tmp} {assign body:Code} {Q:Exit->Act->World->Prop} {a:Act} {w:World} {m cap fb:Nat} {ad:Option Addr} {RV:Nat->Value}
  (hg:a.eval g=.func (.func 97) #[] #[.pointer (some ⟨fb,0,none⟩)]) (mR:CL w fb 2 (.slice ad m cap)) (h:Dr n₀ w ad m RV) (FD:ps.size=2)
  (I:List (Fin m)->World->Prop) (Ix:Code->List (Fin m)->World->Prop) (hI:OwnFrom w.heap.size I) (hIx:∀ c,OwnFrom w.heap.size (Ix c)) (h0:I [] w) (nM:Fin m->Act)
  (qe:∀ (l:Nat) (x:Fin m) (W:World) (K:Act->World->Prop),K (nM x) W->assign.wpIn (Fence.wide.inRound l) 1 Tryz.prog (Exit.then K (fun _ _ _=>False)) { tmps:=(ps.zip #[Value.int .i64 ((x.1:Nat):Int),RV x.1]).foldl (fun t (p,v)=>t.setIfInBounds p v) a.tmps,defers:=[] } W)
  (yY:∀ (l:Nat) (pre:List (Fin m)) (x:Fin m) (W:World),I pre W->pre.length<m->body.wpIn (Fence.wide.inRound l) 1 Tryz.prog (ownPostG w.heap.size (Below n₀) I Ix (pre++[x]) W) (nM x) W)
  (yZ:∀ (D:Nat) (W:World),w.heap.size<=D->I (eh m m) W->RF.eX D W->Q .normal { a with defers:=RF.mark D :: a.defers } W)
  (y6:∀ (D:Nat) (c:Code) (pre:List (Fin m)) (W:World),w.heap.size<=D->Ix c pre W->RF.eX D W->c.wp Tryz.prog Q { a with defers:=RF.mark D :: a.defers } W) :
  (Code.rangeFunc g ps assign body).wp Tryz.prog Q a w :=
 wpIn_wide.1 (wpIn_rangeFunc_ownG (F:=Fence.wide) (n:=3) rfl (by decide) (gf:=97) (lb:=#[.pointer (some ⟨fb,0,none⟩)]) hg trivial (enters_of Tryz.func97 (by kernel_rfl) rfl)
  (wY h mR 2 (by decide)) belowK_t (belowK_b h.sz) (Below.refl _ _) (fun _=>FD.symm) I Ix hI hIx h0 nM qe yY
  (fun D xs W hD hx hi hd=>by subst hx; exact yZ D W hD hi hd) (fun D c pre W hD _ hi hd=>wpIn_wide.2 (y6 D c pre W hD hi hd)))
end
section
open Go.Proofs.Cm (Gr Gd ar cy St)
theorem PX {l:List Nat} {a b:Nat} (h:l.Pairwise (· < ·)) (hr:∀ x∈l,a<=x/\x<b):l.length<=b - a:=by
 have h1:l.Nodup:=h.imp (fun {x y} aw e=>by omega)
 have h2:=eP (m:=List.range' a (b - a)) h1 (fun x hx=>by
  have:=hr x hx;rw [List.mem_range'_1]
  omega)
 rwa [List.length_range'] at h2
theorem dI {α:Type} {l:List (List α)} {i:Nat} (h:i<l.length):l.getD i []=l[i]:=by rw [List.getD_eq_getElem?_getD,List.getElem?_eq_getElem h]; rfl
theorem Jp (h:ar n H O R) {r:List Nat} (hr:r∈R.flatten):∃ i k,i<n/\k<(O.getD i []).length/\r=(R.getD i []).getD k []:=by
 obtain ⟨l,hl,hr⟩:=List.mem_flatten.1 hr;obtain ⟨i,hi,rfl⟩:=List.getElem_of_mem hl;obtain ⟨k,hk,rfl⟩:=List.getElem_of_mem hr
 have aP:i<n:=by rw [<- h.iy]; exact hi
 have e1:=h.len i aP;rw [dI hi] at e1;exact ⟨i,k,aP,by omega,by rw [dI hi]; exact (MR hk).symm⟩
where
 MR {l:List (List Nat)} {k:Nat} (h:k<l.length):l.getD k []=l[k]:=by rw [List.getD_eq_getElem?_getD,List.getElem?_eq_getElem h]; rfl
theorem ud (h:ar n H O R) {r:List Nat} (hr:r∈R.flatten):H r:=by
 obtain ⟨i,k,hi,hk,rfl⟩:=Jp h hr;exact (h.rep i k hi hk).1.1.1
theorem Jq (hH:cy n H) (h:ar n H O R) (x:List Nat):H x↔Gr n (·∈R.flatten) x:=by
 have iX:∀ s,s∈R.flatten->Gd n s:=fun s hs=>hH.gd s (ud h hs)
 constructor
 ·intro hx
  have key:∀ d i x,i+d=n->St H i x->Gr n (·∈R.flatten) x:=by
   intro d
   induction d with
   | zero =>
    intro i x hi hx
    obtain rfl:i=n:=by omega
    rw [Cm.Fx.all (hH.gd x hx.1) hx.2];exact .one
   | succ d ih =>
    intro i x hi hx
    have aP:i<n:=by omega
    have gx:=hH.gd x hx.1;have hp:=(h.orb i (Cm.ap x i) aP).2 ⟨x,hx,rfl⟩;obtain ⟨k,hk,e⟩:=List.getElem_of_mem hp;have hl:=(h.rep i k aP hk).1
    have e2:(O.getD i []).getD k 0=Cm.ap x i:=by rw [List.getD_eq_getElem?_getD,List.getElem?_eq_getElem hk]; exact e
    rw [e2] at hl;have e3:=h.len i aP
    have S7:(R.getD i []).getD k []∈R.flatten:=by
     have Ds:i<R.length:=by rw [h.iy]; exact aP
     rw [dI Ds];rw [dI Ds] at e3;rw [List.getD_eq_getElem?_getD,List.getElem?_eq_getElem (by omega)];exact List.mem_flatten.2 ⟨_,List.getElem_mem Ds,List.getElem_mem _⟩
    generalize (R.getD i []).getD k []=r at *;have gr:=iX r S7
    have IQ:St H (i+1) (Ma.ak x (Ma.aY r)):=by
     refine ⟨hH.mul _ _ hx.1 (hH.inv _ hl.1.1),fun j hj=>?_⟩;rw [Cm.bM gx (by omega)]
     by_cases ej:j=i
     ·subst ej
      rw [<- hl.2];exact Cm.fl gr aP
     ·rw [hx.2 j (by omega)]
      exact Cm.Fx.inv gr (Nat.le_of_lt aP) hl.1.2 j (by omega)
    have h1:=ih (i+1) _ (by omega) IQ;have h2:=Gr.mul _ _ h1 (.gen r S7)
    rwa [Cm.mul_inv_cancel gx gr] at h2
  exact key n 0 x (by omega) ⟨hx,fun j hj=>absurd hj (Nat.not_lt_zero _)⟩
 ·intro hx
  exact Gr.sub hH (fun s hs=>ud h hs) hx
theorem gX (hH:cy n H) (h:ar n H O R) {i:Nat} (hi:i<n):(O.getD i []).length<=n - i:=by
 refine PX (h.jl i hi) fun p hp=>?_;obtain ⟨x,hx,rfl⟩:=(h.orb i p hi).1 hp;have gx:=hH.gd x hx.1;refine ⟨Nat.le_of_not_lt fun aw=>?_,Cm.cM gx hi⟩;have e:=hx.2 _ aw;have:=Cm.kA gx (Nat.lt_trans aw hi) hi e;omega
def fk (n:Int) (OO:List (List Int)) (RR:List (List (List Int))):Prop:=∃ (N:Nat) (O:List (List Nat)) (R:List (List (List Nat))),n=((N:Nat):Int)/\1<=N/\N<=64/\OO=O.map Ma.ah/\RR=R.map (List.map Ma.ah)/\ar N (Gr N (·∈R.flatten)) O R/\∀ s∈R.flatten,Gd N s
def oA (n:Int) (OO:List (List Int)) (RR:List (List (List Int))) (c:Int):Prop:=(¬ (1<=n/\n<=64)/\c=2)∨((1<=n/\n<=64)/\((fk n OO RR/\c=0)∨(¬ fk n OO RR/\c=3)))
theorem oA.uniq {n:Int} {c c':Int} (h:oA n OO RR c) (h':oA n OO RR c'):c=c':=by
 rcases h with ⟨a,rfl⟩ | ⟨a,⟨b,rfl⟩ | ⟨b,rfl⟩⟩ <;> rcases h' with ⟨a',rfl⟩ | ⟨a',⟨b',rfl⟩ | ⟨b',rfl⟩⟩ <;> first | rfl | exact absurd a a' | exact absurd a' a | exact absurd b b' | exact absurd b' b
theorem oA.zero {n:Int} (h:oA n OO RR 0):fk n OO RR:=by
 rcases h with ⟨_,e⟩ | ⟨_,⟨b,_⟩ | ⟨_,e⟩⟩
 ·cases e
 ·exact b
 ·cases e
theorem oA.of {n:Int} (h:fk n OO RR):oA n OO RR 0:=by
 obtain ⟨N,O,R,e,h1,h2,_⟩:=id h;exact .inr ⟨by omega,.inl ⟨h,rfl⟩⟩
theorem fk.lens {n:Int} (h:fk n OO RR):(OO.length:Int)=n/\(RR.length:Int)=n:=by
 obtain ⟨N,O,R,rfl,h1,h2,rfl,rfl,hc,_⟩:=h;rw [List.length_map,List.length_map,hc.iK,hc.iy];exact ⟨rfl,rfl⟩
theorem fk.row {n:Int} (h:fk n OO RR) {i:Nat} (hi:i<RR.length) (hU:i<OO.length):RR[i].length=OO[i].length/\(RR[i].length:Int)<=n - (i:Int):=by
 obtain ⟨N,O,R,rfl,h1,h2,rfl,rfl,hc,hg⟩:=h;rw [List.length_map] at hi hU
 have aP:i<N:=by rw [<- hc.iy]; exact hi
 have e1:=hc.len i aP;have e2:=gX (Gr.dO (gs:=(·∈R.flatten)) hg) hc aP;rw [dI hU] at e1 e2;rw [dI hi] at e1;simp only [List.getElem_map,List.length_map,Ma.aB];omega
theorem fk.perm {n:Int} (h:fk n OO RR) {i:Nat} (hi:i<RR.length) {x:List Int} (hx:x∈RR[i]):(x.length:Int)=n/\Ma.bU x=0:=by
 obtain ⟨N,O,R,rfl,h1,h2,rfl,rfl,hc,hg⟩:=h;rw [List.length_map] at hi;rw [List.getElem_map] at hx;obtain ⟨y,hy,rfl⟩:=List.mem_map.1 hx;have gy:=hg y (List.mem_flatten.2 ⟨_,List.getElem_mem hi,hy⟩);rw [Ma.aB,gy.2];exact ⟨rfl,Ma.nj (by rw [Ma.aB,gy.2]; exact h1) (by rw [Ma.aB,gy.2]; exact h2) (Ma.sY gy.1)⟩
theorem dQ:∀ {a b:List (List Nat)},a.map Ma.ah=b.map Ma.ah->a=b
 | [],[],_=>rfl
 | [],_ :: _,h=>by simp at h
 | _ :: _,[],h=>by simp at h
 | x :: a,y :: b,h=>by
  simp only [List.map_cons,List.cons.injEq] at h;rw [Ma.lG h.1,dQ h.2]
theorem rK (R:List (List (List Nat))):(R.map (List.map Ma.ah)).flatten=R.flatten.map Ma.ah:=by
 induction R with
 | nil=>rfl
 | cons r R ih=>simp only [List.map_cons,List.flatten_cons,List.map_append,ih]
theorem fk.same (h1:1<=N) (h2:N<=64) (hg:∀ s∈gs,Gd N s) (iX:RR.flatten=gs.map Ma.ah) (hc:ar N (Gr N (·∈gs)) O R) :
  fk ((N:Nat):Int) OO RR↔OO=O.map Ma.ah/\RR=R.map (List.map Ma.ah):=by
 constructor
 ·rintro ⟨N',O',R',e,_,_,rfl,rfl,Aq,_⟩
  obtain rfl:N=N':=by omega
  rw [rK] at iX;have:=dQ iX;subst this;obtain ⟨rfl,rfl⟩:=hc.uniq Aq;exact ⟨rfl,rfl⟩
 ·rintro ⟨rfl,rfl⟩
  rw [rK] at iX;have:=dQ iX;subst this;exact ⟨N,O,R,rfl,h1,h2,rfl,rfl,hc,hg⟩
theorem Bx (h1:1<=N) (h2:N<=64) (hg:∀ s∈gs,Gd N s) (hc:ar N (Gr N (·∈gs)) O R):fk ((N:Nat):Int) (O.map Ma.ah) (R.map (List.map Ma.ah)):=by
 have hH:=Gr.dO (n:=N) (gs:=(·∈gs)) hg;have e:Gr N (·∈gs)=Gr N (·∈R.flatten):=funext fun x=>propext (Jq hH hc x);refine ⟨N,O,R,rfl,h1,h2,rfl,rfl,?_,fun s hs=>hH.gd s (ud hc hs)⟩;rw [<- e];exact hc
end
section
open Go.RowKit
open Go.Proofs.Ob
open Go.Shelf
open Go.Proofs.Cm (Lv br cd)
attribute [local go_sem] Oper.semAt_some
attribute [local irreducible] Go.Calls Go.wpList Go.wpListIn
theorem Jr (args:Array Value) (w:World):(callFunc 74 args).run Tryz.prog w=.ok (.enter 74 args) w:=by kernel_rfl
theorem y7 (args:Array Value) (w:World):(callFunc 68 args).run Tryz.prog w=.ok (.enter 68 args) w:=by kernel_rfl
theorem PY (args:Array Value) (w:World):(callFunc 69 args).run Tryz.prog w=.ok (.enter 69 args) w:=by kernel_rfl
theorem PZ (args:Array Value) (w:World):(callFunc 70 args).run Tryz.prog w=.ok (.enter 70 args) w:=by kernel_rfl
theorem WA (args:Array Value) (w:World):(callFunc 96 args).run Tryz.prog w=.ok (.enter 96 args) w:=by kernel_rfl
theorem y8:(Tryz.prog.info? 30).map (fun i=>(i.zero,i.size,i.bytes))=some (some (.int .i64 0),1,8):=by kernel_rfl
theorem ue {o:Oper} {a:Act} {w:World} (ho:o.op=.alloc 30):(execOp a.eval o).run Tryz.prog w=.ok (.value (.pointer (some ⟨w.heap.size,0,none⟩))) (w.alloc (.cells #[.int .i64 0] 30)):=by
 obtain ⟨i0,hi,dr,bD,dM⟩:=info_parts y8;unfold execOp;simp [ho,Instr.alloc,typeInfo,zeroValue,hi,dr,newVar,Value.cells,Result.andThen];rfl
theorem oB {o:Oper} {a:Act} {w:World} (ho:o.op=.alloc 3):(execOp a.eval o).run Tryz.prog w=.ok (.value (.pointer (some ⟨w.heap.size,0,none⟩))) (w.alloc (.cells #[.int .i64 0] 3)):=by
 obtain ⟨i0,hi,dr,bD,dM⟩:=info_parts vg;unfold execOp;simp [ho,Instr.alloc,typeInfo,zeroValue,hi,dr,newVar,Value.cells,Result.andThen];rfl
theorem mS {o:Oper} {a:Act} {w:World} (ho:o.op=.alloc 41):(execOp a.eval o).run Tryz.prog w=.ok (.value (.pointer (some ⟨w.heap.size,0,none⟩))) (w.alloc (.cells #[.slice none 0 0] 41)):=by
 obtain ⟨i0,hi,dr,bD,dM⟩:=info_parts eU;unfold execOp;simp [ho,Instr.alloc,typeInfo,zeroValue,hi,dr,newVar,Value.cells,Result.andThen];rfl
theorem dm {w:World} {b o:Nat} {u:Value} (v:Int) (h:w.cell? ⟨b,o,none⟩=some u) (hf:w.frozen? ⟨b,o,none⟩=false) :
  (storeVar 30 ⟨b,o,none⟩ (.int .i64 v)).run Tryz.prog w=.ok () (w.setCell ⟨b,o,none⟩ (.int .i64 v)):=by
 obtain ⟨i0,hi,dr,bD,dM⟩:=info_parts y8
 have h0:(⟨b,o,none⟩:Addr).add 0=⟨b,o,none⟩:=by simp [Addr.add]
 simp [storeVar,sizeOf,typeInfo,hi,bD,Value.cells,storeCells,store,h0];simp [Sem.run,h,hf]
theorem oC {w:World} {ad:Addr} (h:w.cell? ad=some v):(loadVar 30 ad).run Tryz.prog w=.ok v w:=by
 simp [loadVar,isAgg,run_underlying Tryz.underlying30,load];simp [Sem.run,h]
theorem y9 {fn:Func} {p:Go.Tmp} (h:fn.results=#[.cell p 30]) (tmps:Array Value) {w:World} {b:Nat} (hp:tmps.getD p undef=.pointer (some ⟨b,0,none⟩)) (hc:w.cell? ⟨b,0,none⟩=some v) :
  (results fn tmps).run Tryz.prog w=.ok v w:=by
 have Cv:tmps[p]?.getD undef=.pointer (some ⟨b,0,none⟩):=by simpa using hp
 simp [results,h,Cv,asAddr,oC hc]
theorem aD {w:World} {b:Nat} {x y:Value} (h0:w.cell? ⟨b,0,none⟩=some x) (h1:w.cell? ⟨b,1,none⟩=some y) (h2:w.cell? ⟨b,2,none⟩=some z):(loadVar 25 ⟨b,0,none⟩).run Tryz.prog w=.ok (.agg #[x,y,z]) w:=by
 obtain ⟨i0,hi,dr,bD,dM⟩:=info_parts gT
 have yF:(⟨b,0,none⟩:Addr).add 0=⟨b,0,none⟩:=by simp [Addr.add]
 have jB:(⟨b,0,none⟩:Addr).add 1=⟨b,1,none⟩:=by simp [Addr.add]
 have iN:(⟨b,0,none⟩:Addr).add 2=⟨b,2,none⟩:=by simp [Addr.add]
 have hg:(isAgg 25).run Tryz.prog w=.ok true w:=by kernel_rfl
 simp [loadVar,hg,sizeOf,typeInfo,hi,bD,loadCells,loadCellsFrom,load,yF,jB,iN];simp [Sem.run,h0,h1,h2]
structure CW (w:World) (b:Nat) (v:Value):Prop where
 c:w.cell? ⟨b,0,none⟩=some v
 f:w.frozen? ⟨b,0,none⟩=false
 lt:b<w.heap.size
theorem CW.p {w:World} {b:Nat} (h:CW w b v) (hb:Below w.heap.size w w'):CW w' b v:=⟨(hb.cell (p:=⟨b,0,none⟩) h.lt).trans h.c,(hb.frozen (p:=⟨b,0,none⟩) h.lt).trans h.f,Nat.lt_of_lt_of_le h.lt hb.size⟩
theorem CW.new (w:World) (v:Value) (t:TypeId):CW (w.alloc (.cells #[v] t)) w.heap.size v:=⟨by rw [Rg.aT]; rfl,kG _ _ _ 0 _,by simp⟩
theorem CW.set {w:World} {b:Nat} {u:Value} (h:CW w b u) (v:Value):CW (w.setCell ⟨b,0,none⟩ v) b v:=⟨World.cell?_setCell_same (h:=h.c) ..,by rw [World.frozen?_setCell]; exact h.f,by simpa using h.lt⟩
theorem CW.other {w:World} {b b' o:Nat} {u:Value} (h:CW w b u) (v:Value) (hne:b≠b'):CW (w.setCell ⟨b',o,none⟩ v) b u:=⟨by rw [World.cell?_setCell_other (h:=by intro e; injection e with e1 e2; omega) ..]; exact h.c,by rw [World.frozen?_setCell]; exact h.f,by simpa using h.lt⟩
theorem CL.other {w:World} {b b' o o':Nat} {u:Value} (h:CL w b o' u) (v:Value) (hne:b≠b'):CL (w.setCell ⟨b',o,none⟩ v) b o' u:=⟨by rw [World.cell?_setCell_other (h:=by intro e; injection e with e1 e2; omega) ..]; exact h.cell,by simpa using h.lt⟩
theorem CW.kp {w:World} {b:Nat} (h:CW w b v) (hk:Rg.Kp M w w') (hM:¬ M b):CW w' b v :=
 ⟨(World.cell?_of_block (a:=⟨b,0,none⟩) (hk.block b h.lt hM)).trans h.c,(World.frozen?_of_block (a:=⟨b,0,none⟩) (hk.block b h.lt hM)).trans h.f,Nat.lt_of_lt_of_le h.lt hk.size⟩
theorem CL.kp {w:World} {b o:Nat} (h:CL w b o v) (hk:Rg.Kp M w w') (hM:¬ M b):CL w' b o v :=
 ⟨(World.cell?_of_block (a:=⟨b,o,none⟩) (hk.block b h.lt hM)).trans h.cell,Nat.lt_of_lt_of_le h.lt hk.size⟩
structure xG (w:World) (n:Int) (ov rv:Value) (W:World) (v:Value) (gs:List (List Nat)):Prop where
 dP:Below w.heap.size w W
 a0:CL W w.heap.size 0 (.int .i64 n)
 a1:CL W w.heap.size 1 ov
 a2:CL W w.heap.size 2 rv
 c2:CW W (w.heap.size+1) (.int .i64 0)
 c3:CW W (w.heap.size+2) (.int .i64 n)
 c4:CW W (w.heap.size+3) v
 row:dx (fun k=>k<w.heap.size) (w.heap.size+4) W v gs
theorem xG.p {w:World} {n:Int} {ov rv:Value} {W W':World} {v:Value} {gs:List (List Nat)} (h:xG w n ov rv W v gs) (hb:Below W.heap.size W W'):xG w n ov rv W' v gs :=
 ⟨Rg.acc h.dP hb,h.a0.p hb,h.a1.p hb,h.a2.p hb,h.c2.p hb,h.c3.p hb,h.c4.p hb,h.row.p hb⟩
theorem xG.keep {w:World} {n:Int} {row:Option Nat} (h:xG w n ov rv W v gs) (hB:w.heap.size+4<=B) (hg:W.grownBy W' row) (hr:∀ r,row=some r->B<=r/\∃ o:Obj,W.heap[r]?=some o/\o.isCells=false):xG w n ov rv W' v gs:=by
 have hk:Rg.Kp (fun k=>row=some k) W W':=Rg.Kp.cH hg fun _ e=>e
 have hM:∀ b,b<B->¬ row=some b:=fun b hb e=>by have:=(hr b e).1; omega
 obtain ⟨us,h1,h2⟩:=h.row.own;refine ⟨h.dP.grown hg h.dP.size (fun k e=>by have:=(hr k e).1; omega),h.a0.kp hk (hM _ (by omega)),h.a1.kp hk (hM _ (by omega)),h.a2.kp hk (hM _ (by omega)),h.c2.kp hk (hM _ (by omega)),h.c3.kp hk (hM _ (by omega)),h.c4.kp hk (hM _ (by omega)),⟨Nat.le_trans h.row.size hk.size,us,iB h1 hk (fun k e1 e2=>?_),h2.kp hk (fun k dy=>hM k (by omega))⟩⟩;obtain ⟨_,o,ho,hc⟩:=hr k e1;obtain ⟨_,h3⟩:=h1
 rcases h3 with ⟨h4,_⟩ | ⟨g,cap,cur,h4,_,h5,_⟩
 ·rw [h4] at e2; simp [Value.ownBlock] at e2
 ·rw [h4] at e2
  simp [Value.ownBlock] at e2;subst e2;rw [h5] at ho
  cases ho; cases hc
def rowOf (RR:List (List (List Int))) {m:Nat} (x:Fin m):List (List Int):=RR.getD x.1 []
theorem CW.upto {w:World} {b:Nat} (h:CW w b v) (hb:Below B w w') (hB:b<B):CW w' b v:=⟨(hb.cell (p:=⟨b,0,none⟩) hB).trans h.c,(hb.frozen (p:=⟨b,0,none⟩) hB).trans h.f,Nat.lt_of_lt_of_le h.lt hb.size⟩
theorem CL.upto {w:World} {b o:Nat} (h:CL w b o v) (hb:Below B w w') (hB:b<B):CL w' b o v:=⟨(hb.cell (p:=⟨b,o,none⟩) hB).trans h.cell,Nat.lt_of_lt_of_le h.lt hb.size⟩
theorem ba.mk {w:World} (h1:Rg.Rows w ov OO) (h2:fO w rv RR):ba w ov rv OO RR:=⟨h1,h2⟩
theorem ba.upto {w:World} (h:ba w ov rv OO RR) (hb:Below w.heap.size w w'):ba w' ov rv OO RR:=h.p hb
theorem _root_.Go.Proofs.RF.eX.p (h:RF.eX D W) (hb:Below W.heap.size W W'):RF.eX D W':=h.oz hb
theorem KK.p {r_:World} (h:KK B n₀ W W') (hb:Below W'.heap.size W' r_):KK B n₀ W r_:=h.acc hb
theorem MS {n m:Int} {q_ sC:Value} {nK:List (List Int)} {iD:List (List (List Int))} {w:World} (h1:ba w ov rv OO RR) (h2:ba w q_ sC nK iD) {b:Bool} (hb:Hid (decide (n=m/\OO=nK/\RR=iD)=b)) :
  Calls Tryz.prog 96 #[.agg #[.int .i64 n,ov,rv],.agg #[.int .i64 m,q_,sC]] w fun e w'=>e=.returned (.bool b)/\Below w.heap.size w w':=by
 rw [<- hb.u]; exact Fw h1 h2
theorem xG.store {w:World} {n:Int} {v':Value} {gs':List (List Nat)} (h:xG w n ov rv W v gs) (hb:Below (w.heap.size+4) W X) (hr:dx (fun k=>k<w.heap.size) (w.heap.size+4) X v' gs'):xG w n ov rv (X.setCell ⟨w.heap.size+3,0,none⟩ v') v' gs':=by
 have hk:Rg.Kp (fun z=>z=w.heap.size+3) X (X.setCell ⟨w.heap.size+3,0,none⟩ v'):=Rg.Kp.aU rfl;obtain ⟨us,q1,q2⟩:=hr.own;refine ⟨(h.dP.trans (hb.mono (by omega))).setCell (p:=⟨w.heap.size+3,0,none⟩) (by show w.heap.size<=w.heap.size+3; omega) _,(h.a0.upto hb (by omega)).other _ (by omega),(h.a1.upto hb (by omega)).other _ (by omega),(h.a2.upto hb (by omega)).other _ (by omega),(h.c2.upto hb (by omega)).other _ (by omega),(h.c3.upto hb (by omega)).other _ (by omega),(h.c4.upto hb (by omega)).set _,⟨Nat.le_trans hr.size hk.size,us,iB q1 hk (fun k e1 e2=>by have:=(q1.lt k e2).1; omega),q2.kp hk (fun k dy e=>by omega)⟩⟩
theorem KK.row {W1:World} {B2:Nat} (h:KK B n₀ W W1) (hk:Rg.Kp (fun k=>v.ownBlock=some k) W1 X) (hr:dx F B2 W1 v gs) (hn:n₀<=B2):KK B n₀ W X:=by
 obtain ⟨us,q1,q2⟩:=hr.own
 have Tp:∀ j o,v.ownBlock=some j->W1.heap[j]?=some o->o.isCells=true:=fun j o e1 e2=>by
  obtain ⟨_,h3⟩:=q1
  rcases h3 with ⟨h4,_⟩ | ⟨g,cap,cur,h4,_,h5,_⟩
  ·rw [h4] at e1; simp [Value.ownBlock] at e1
  ·rw [h4] at e1
   simp [Value.ownBlock] at e1;subst e1;rw [h5] at e2
   cases e2; rfl
 refine ⟨h.keeps.trans ⟨hk.size,fun k o _ dy ho=>(hk.block k (Array.getElem?_eq_some_iff.1 dy).1 (fun e=>by rw [Tp k o e dy] at ho; cases ho)).trans dy⟩,h.dP.trans ⟨hk.os,hk.tape,hk.output,hk.size,fun k dy=>hk.block k (by have:=h.dP.size; have:=h.le; omega) (fun e=>by have:=(q1.lt k e).1; omega)⟩,h.le⟩
theorem FE:(eh RR.length RR.length).flatMap (rowOf RR)=RR.flatten:=by
 rw [Jo];rw [List.flatMap_def]
 congr 1
 refine List.ext_getElem (by simp) fun i h1 h2=>?_;simp only [List.getElem_map,List.getElem_finRange];exact dI h2
def Lc (n:Int) (OO:List (List Int)) (RR:List (List (List Int))) (w:World) (e:Ending) (w':World):Prop:=∃ c,e=.returned (.int .i64 c)/\oA n OO RR c/\Below w.heap.size w w'
theorem kr {n:Int} {w:World} {tmps:Array Value} {c:Int} {ds:List Nat} (hb:Below w.heap.size w W) (hc:CW W (w.heap.size+1) (.int .i64 c)) (hC:oA n OO RR c) (hp:tmps.getD 2 undef=.pointer (some ⟨w.heap.size+1,0,none⟩)) (hnd:ds.Nodup) (hD:∀ D,D∈ds->RF.eX D W/\w.heap.size<=D) :
  LeavesInM Fence.wide 0 Tryz.prog Tryz.f73 tmps (Lc n OO RR w) (ds.map RF.mark) .returning W :=
 RF.leaves w.heap.size ds W hnd hD fun _ l1 l2 _=>⟨_,y9 rfl _ hp ((l2 _).trans hc.c),c,rfl,hC,hb.trans l1⟩
theorem Dt {n:Int} {w:World} (h:ba w ov rv OO RR) :
  Calls Tryz.prog 73 #[.agg #[.int .i64 n,ov,rv]] w (Lc n OO RR w):=by
 obtain ⟨oa,oc,rfl,_,WB,_,_⟩:=h.1.shape;obtain ⟨ra,rc,rfl⟩:=h.2.shape;have HO:=U h.1;have HR:=U h.2;have K:=U (Below.refl w.heap.size w)
 have hrL:RR.length<=1000000000:=by
  obtain ⟨us,⟨a,c,e,_,_,e2,_⟩,h2,_⟩:=h.2;unfold Rg.nU at e2;omega
 have H:=U h;clear h;refine RF.im Tryz.func73 rfl ?_;simp only [Tryz.ntmps73,List.size_toArray,List.length_cons,List.length_nil,Nat.reduceAdd,Nat.reduceSub,Array.replicate_succ,Array.replicate_zero,List.push_toArray,List.append_toArray,List.nil_append,List.cons_append];have aJ:=dX w (.int .i64 n) (.slice oa OO.length oc) (.slice ra RR.length rc)
 have hs:(w.alloc (.cells #[.int .i64 n,.slice oa OO.length oc,.slice ra RR.length rc] 25)).heap.size=w.heap.size+1:=by simp
 go_upto_region 0 with fail
 refine b6<|k5 (Rg.aS _ _ rfl rfl) ?_;go_frame
 have hb:Below w.heap.size w (w.alloc (.cells #[.int .i64 n,.slice oa OO.length oc,.slice ra RR.length rc] 25)):=(Below.refl _ _).alloc (Nat.le_refl _) _;generalize w.alloc (.cells #[.int .i64 n,.slice oa OO.length oc,.slice ra RR.length rc] 25)=w1 at *;have A0:=U aJ.1;have A1:=U aJ.2.1;have A2:=U aJ.2.2;replace K:=U hb;have mH:w1.heap.size=w.heap.size+1:=hs;clear aJ hb hs;have du:=CW.new w1 (.int .i64 0) 30
 have hs:(w1.alloc (.cells #[.int .i64 0] 30)).heap.size=w1.heap.size+1:=by simp
 refine k5 (ue rfl) ?_;go_frame;have hb:=(Below.refl w1.heap.size w1).alloc (Nat.le_refl _) (.cells #[.int .i64 0] 30);generalize w1.alloc (.cells #[.int .i64 0] 30)=w2 at *;replace A0:=U (A0.u.p hb);replace A1:=U (A1.u.p hb);replace A2:=U (A2.u.p hb);replace K:=U (Rg.acc K.u hb);clear hb;rw [mH] at du ⊢
 have jm:w2.heap.size=w.heap.size+2:=by omega
 have C2:=U du;clear du hs;go_upto_region 1 with fail
 refine b6<|k5 (j0 (cP _ _))<|k5 (g7 (.int .i64 n) ⟨w.heap.size,0,none⟩ (af A0.u.cell)) ?_;go_frame
 have du:=CW.new w2 (.int .i64 0) 3
 have hs:(w2.alloc (.cells #[.int .i64 0] 3)).heap.size=w2.heap.size+1:=by simp
 refine k5 (oB rfl) ?_;go_frame;have hb:=(Below.refl w2.heap.size w2).alloc (Nat.le_refl _) (.cells #[.int .i64 0] 3);generalize w2.alloc (.cells #[.int .i64 0] 3)=w3 at *;replace A0:=U (A0.u.p hb);replace A1:=U (A1.u.p hb);replace A2:=U (A2.u.p hb);replace C2:=U (C2.u.p hb);replace K:=U (Rg.acc K.u hb);clear hb;rw [jm] at du ⊢
 have Du:w3.heap.size=w.heap.size+3:=by omega
 have C3:=U du;clear du hs;refine Rg.aL none rfl rfl (Rg.aq _ _ _ rfl _ rfl _ rfl (dN n C3.u.c C3.u.f)) ?_;go_frame;have hk:=K.u.setCell (p:=⟨w.heap.size+2,0,none⟩) (by show w.heap.size<=w.heap.size+2; omega) (.int .i64 n);have x0:=A0.u.other (o:=0) (b':=w.heap.size+2) (.int .i64 n) (by omega);have x1:=A1.u.other (o:=0) (b':=w.heap.size+2) (.int .i64 n) (by omega);have x2:=A2.u.other (o:=0) (b':=w.heap.size+2) (.int .i64 n) (by omega);have y2:=C2.u.other (o:=0) (b':=w.heap.size+2) (.int .i64 n) (by omega);have y3:=C3.u.set (.int .i64 n)
 have P0:(w3.setCell ⟨w.heap.size+2,0,none⟩ (.int .i64 n)).heap.size=w.heap.size+3:=by simp; omega
 generalize w3.setCell ⟨w.heap.size+2,0,none⟩ (.int .i64 n)=w9 at *;replace K:=U hk;replace A0:=U x0;replace A1:=U x1;replace A2:=U x2;replace C2:=U y2;replace C3:=U y3;clear hk x0 x1 x2 y2 y3
 by_cases Wt:n<1
 ·skip
  go_upto_region 2 with fail
  refine b6<|k5 (g7 (.int .i64 n) ⟨(w.heap.size+2),0,none⟩ (af C3.u.c))<|k5 (g8 (.bool true) .lss (h:=aH _ f7))<|j9 rfl<|f9 14 ?_;go_frame
  refine f9 15<|k5 (i4 (.bool true)) ?_;go_frame
  go_upto_region 3 with fail
  refine b6<|Rg.aL none rfl rfl (Rg.aq _ _ _ rfl _ rfl _ rfl (dm 2 C2.u.c C2.u.f)) ?_;go_frame
  have hk:=K.u.setCell (p:=⟨w.heap.size+1,0,none⟩) (by show w.heap.size<=w.heap.size+1; omega) (.int .i64 2);have y2:=C2.u.set (.int .i64 2);generalize w9.setCell ⟨w.heap.size+1,0,none⟩ (.int .i64 2)=dH at *;have KX:=U hk;have CX:=U y2;have y_:=U (show oA n OO RR 2 from .inl ⟨by omega,rfl⟩);clear hk y2;go_wp2;exact kr (ds:=[]) KX.u CX.u y_.u rfl (by simp) (fun D hD=>by simp at hD)
 by_cases Jk:64<n
 ·skip
  go_upto_region 2 with fail
  refine b6<|k5 (g7 (.int .i64 n) ⟨(w.heap.size+2),0,none⟩ (af C3.u.c))<|k5 (g8 (.bool false) .lss (h:=aH _ f8))<|j9 rfl<|k5 (g7 (.int .i64 n) ⟨(w.heap.size+2),0,none⟩ (af C3.u.c)) ?_;go_frame
  refine k5 (g8 (.bool true) .gtr (h:=bl _ f7))<|k5 (i3 (.bool true)) ?_;go_frame
  go_upto_region 3 with fail
  refine b6<|Rg.aL none rfl rfl (Rg.aq _ _ _ rfl _ rfl _ rfl (dm 2 C2.u.c C2.u.f)) ?_;go_frame
  have hk:=K.u.setCell (p:=⟨w.heap.size+1,0,none⟩) (by show w.heap.size<=w.heap.size+1; omega) (.int .i64 2);have y2:=C2.u.set (.int .i64 2);generalize w9.setCell ⟨w.heap.size+1,0,none⟩ (.int .i64 2)=dH at *;have KX:=U hk;have CX:=U y2;have y_:=U (show oA n OO RR 2 from .inl ⟨by omega,rfl⟩);clear hk y2;go_wp2;exact kr (ds:=[]) KX.u CX.u y_.u rfl (by simp) (fun D hD=>by simp at hD)
 go_upto_region 2 with fail
 refine b6<|k5 (g7 (.int .i64 n) ⟨(w.heap.size+2),0,none⟩ (af C3.u.c))<|k5 (g8 (.bool false) .lss (h:=aH _ f8))<|j9 rfl<|k5 (g7 (.int .i64 n) ⟨(w.heap.size+2),0,none⟩ (af C3.u.c)) ?_;go_frame
 refine k5 (g8 (.bool false) .gtr (h:=bl _ f8))<|k5 (i3 (.bool false)) ?_;go_frame
 by_cases kF:(OO.length:Int)=n
 case neg =>
  skip
  go_upto_region 4 with fail
  refine b6<|k5 (j0 (cn _ _))<|k5 (g7 (.slice oa OO.length oc) ⟨w.heap.size,1,none⟩ (Rg.ae _ _ Tryz.underlying22 A1.u.cell))<|k5 (g9 Tryz.underlying22)<|k5 (g7 (.int .i64 n) ⟨(w.heap.size+2),0,none⟩ (af C3.u.c)) ?_;go_frame
  refine k5 (g8 (.bool true) .neq (h:=az _ f7))<|j9 rfl<|f9 23<|f9 24<|f9 25 ?_;go_frame
  refine f9 26<|f9 27<|k5 (i4 (.bool true)) ?_;go_frame
  go_upto_region 5 with fail
  refine b6<|Rg.aL none rfl rfl (Rg.aq _ _ _ rfl _ rfl _ rfl (dm 3 C2.u.c C2.u.f)) ?_;go_frame
  have hk:=K.u.setCell (p:=⟨w.heap.size+1,0,none⟩) (by show w.heap.size<=w.heap.size+1; omega) (.int .i64 3);have y2:=C2.u.set (.int .i64 3);generalize w9.setCell ⟨w.heap.size+1,0,none⟩ (.int .i64 3)=dH at *;have KX:=U hk;have CX:=U y2;have y_:=U (show oA n OO RR 3 from .inr ⟨by omega,.inr ⟨fun hh=>kF hh.lens.1,rfl⟩⟩);clear hk y2;go_wp2;exact kr (ds:=[]) KX.u CX.u y_.u rfl (by simp) (fun D hD=>by simp at hD)
 by_cases mG:(RR.length:Int)=n
 case neg =>
  skip
  go_upto_region 4 with fail
  refine b6<|k5 (j0 (cn _ _))<|k5 (g7 (.slice oa OO.length oc) ⟨w.heap.size,1,none⟩ (Rg.ae _ _ Tryz.underlying22 A1.u.cell))<|k5 (g9 Tryz.underlying22)<|k5 (g7 (.int .i64 n) ⟨(w.heap.size+2),0,none⟩ (af C3.u.c)) ?_;go_frame
  refine k5 (g8 (.bool false) .neq (h:=az _ f8))<|j9 rfl<|k5 (j0 (cK _ _))<|k5 (g7 (.slice ra RR.length rc) ⟨w.heap.size,2,none⟩ (Rg.ae _ _ Tryz.underlying23 A2.u.cell))<|k5 (g9 Tryz.underlying23) ?_;go_frame
  refine k5 (g7 (.int .i64 n) ⟨(w.heap.size+2),0,none⟩ (af C3.u.c))<|k5 (g8 (.bool true) .neq (h:=az _ f7))<|k5 (i3 (.bool true)) ?_;go_frame
  go_upto_region 5 with fail
  refine b6<|Rg.aL none rfl rfl (Rg.aq _ _ _ rfl _ rfl _ rfl (dm 3 C2.u.c C2.u.f)) ?_;go_frame
  have hk:=K.u.setCell (p:=⟨w.heap.size+1,0,none⟩) (by show w.heap.size<=w.heap.size+1; omega) (.int .i64 3);have y2:=C2.u.set (.int .i64 3);generalize w9.setCell ⟨w.heap.size+1,0,none⟩ (.int .i64 3)=dH at *;have KX:=U hk;have CX:=U y2;have y_:=U (show oA n OO RR 3 from .inr ⟨by omega,.inr ⟨fun hh=>mG hh.lens.2,rfl⟩⟩);clear hk y2;go_wp2;exact kr (ds:=[]) KX.u CX.u y_.u rfl (by simp) (fun D hD=>by simp at hD)
 go_upto_region 4 with fail
 refine b6<|k5 (j0 (cn _ _))<|k5 (g7 (.slice oa OO.length oc) ⟨w.heap.size,1,none⟩ (Rg.ae _ _ Tryz.underlying22 A1.u.cell))<|k5 (g9 Tryz.underlying22)<|k5 (g7 (.int .i64 n) ⟨(w.heap.size+2),0,none⟩ (af C3.u.c)) ?_;go_frame
 refine k5 (g8 (.bool false) .neq (h:=az _ f8))<|j9 rfl<|k5 (j0 (cK _ _))<|k5 (g7 (.slice ra RR.length rc) ⟨w.heap.size,2,none⟩ (Rg.ae _ _ Tryz.underlying23 A2.u.cell))<|k5 (g9 Tryz.underlying23) ?_;go_frame
 refine k5 (g7 (.int .i64 n) ⟨(w.heap.size+2),0,none⟩ (af C3.u.c))<|k5 (g8 (.bool false) .neq (h:=az _ f8))<|k5 (i3 (.bool false)) ?_;go_frame
 obtain ⟨N,rfl⟩:∃ N:Nat,n=N:=⟨n.toNat,by omega⟩
 have eB:1<=N:=by omega
 have za:N<=64:=by omega
 have P1:=U (show OO.length=N by omega);have rf:=U (show RR.length=N by omega);clear kF mG Wt Jk;go_upto_region 6 with fail;refine b6 ?_;have du:=CW.new w9 (.slice none 0 0) 41
 have hs:(w9.alloc (.cells #[.slice none 0 0] 41)).heap.size=w9.heap.size+1:=by simp
 refine k5 (mS rfl) ?_;go_frame;have hb:=(Below.refl w9.heap.size w9).alloc (Nat.le_refl _) (.cells #[.slice none 0 0] 41);generalize w9.alloc (.cells #[.slice none 0 0] 41)=Tq at *;replace A0:=U (A0.u.p hb);replace A1:=U (A1.u.p hb);replace A2:=U (A2.u.p hb);replace C2:=U (C2.u.p hb);replace C3:=U (C3.u.p hb);replace K:=U (Rg.acc K.u hb);clear hb;rw [P0] at du ⊢
 have hs5:Tq.heap.size=w.heap.size+4:=by omega
 have C4:=U du;clear du hs;have CI:=U (show xG w ((N:Nat):Int) (.slice oa OO.length oc) (.slice ra RR.length rc) Tq (.slice none 0 0) [] from ⟨K.u,A0.u,A1.u,A2.u,C2.u,C3.u,C4.u,dx.nil _ (by omega)⟩);have sx:=U hs5;clear A0 A1 A2 C2 C3 C4 mH jm Du P0 hs5;go_upto_region 7 with fail
 refine b6<|k5 (g7 ((.agg #[.int .i64 ((N:Nat):Int),.slice oa OO.length oc,.slice ra RR.length rc])) ⟨w.heap.size,0,none⟩ (aD CI.u.a0.cell CI.u.a1.cell CI.u.a2.cell)) ?_;go_frame
 refine f3 30 (ax 74 _ _ rfl rfl (Jr _ _)) ?_;refine (vL _ _ _ Tq).mono ?_;rintro e1 fN ⟨fb,rfl,mR,hb⟩;have cO:=hb.size;refine ⟨_,rfl,?_⟩;go_frame;replace CI:=U (CI.u.p hb);replace K:=U (Rg.acc K.u hb);clear hb;have FB:=U mR;clear mR;have jG:=U (show w.heap.size+4<=fN.heap.size by have:=sx.u; omega);clear cO;obtain ⟨us,ph,zd,FF⟩:=HR.u;have P2:=U FF
 have FG:Dr w.heap.size fN ra RR.length (fun k=>us[k]?.getD undef):=by
  obtain ⟨a',c',e,q1,q2,q3,q4⟩:=ph
  injection e with e1 e2 e3
  refine ⟨by omega,fun h0=>?_,fun b off e5 j hj=>?_,K.u.size⟩
  ·obtain ⟨b,o,e4,e5,_⟩:=q4 (by omega)
   exact ⟨b,o,e1.trans e4,e5⟩
  ·obtain ⟨b',o',e4,e6,e7⟩:=q4 (by omega)
   rw [e1,e4] at e5;simp only [Option.some.injEq,Addr.mk.injEq,and_true] at e5;obtain ⟨rfl,rfl⟩:=e5;rw [(K.u.cell (p:=⟨b',o'+j,none⟩) e6)];show _=some (us[j]?.getD undef);rw [List.getElem?_eq_getElem (by omega)];exact e7 j (by omega)
 have ze:=U FG;have sD:=U zd;clear ph FG zd FF;go_wp2
 refine wZ rfl FB.u ze.u rfl (fun pre W=>∃ v gs,xG w ((N:Nat):Int) (.slice oa OO.length oc) (.slice ra RR.length rc) W v gs/\gs.map Ma.ah=pre.flatMap (rowOf RR)/\(∀ g∈gs,Cm.Gd N g)/\gs.length<=64*pre.length)
  (fun c pre W=>c=.ret/\Below w.heap.size w W/\CW W (w.heap.size+1) (.int .i64 3)/\¬ fk ((N:Nat):Int) OO RR) ?hI ?hIx ⟨_,[],CI.u,rfl,fun g hg=>by simp at hg,Nat.zero_le _⟩ ?a1 ?assign ?body ?done ?stop
 case assign =>
  intro l x W K hK
  gi_wp2
  exact hK
 case hI =>
  rintro pre W W' row ⟨v,gs,h1,h2⟩ hg hr;exact ⟨v,gs,h1.keep (by have:=jG.u; omega) hg hr,h2⟩
 case hIx =>
  rintro c pre W W' row ⟨rfl,h1,h2,h3⟩ hg hr;exact ⟨rfl,h1.grown hg h1.size (fun k e=>by have:=(hr k e).1; have:=jG.u; omega),h2.kp (Rg.Kp.cH hg (M:=fun k=>row=some k) fun _ e=>e) (fun e=>by have:=(hr _ e).1; have:=jG.u; omega),h3⟩
 case body =>
  rintro l pre ⟨X,hX⟩ W ⟨v,gs,uf,tW,Cp,ke⟩ MT;obtain ⟨B,hB⟩:∃ B,fN.heap.size=B:=⟨_,rfl⟩;rw [hB] at jG ⊢;clear FB ze CI K hB;have CI:=U uf;have K:=U uf.dP;have KQ:=U (KK.refl (B:=B) (n₀:=w.heap.size) (W:=W) uf.dP.size);have Df:=U tW;have Az:=U Cp
  have aab:=U (show gs.length<=64*64 by
   have:pre.length<64:=by have:=rf.u; omega
   omega)
  have sF:=U hX;have aac:=U ke;have sG:=U (show X<OO.length by have:=P1.u; have:=rf.u; omega);clear uf tW Cp ke;have hu:=P2.u X (by rw [sD.u]; exact hX) hX
  have e1:us[X]?.getD undef=us[X]'(by rw [sD.u]; exact hX):=by rw [List.getElem?_eq_getElem (by rw [sD.u]; exact hX)]; rfl
  rw [<- e1] at hu
  dsimp only
  generalize us[X]?.getD undef=u at *;clear e1;obtain ⟨r,hr⟩:∃ r:List (List Int),Hid (RR[X]'hX=r):=⟨_,U rfl⟩
  replace hu:Rg.Rows w u r:=by rw [<- hr.u]; exact hu
  obtain ⟨ua,uc,rfl,_,eG,_,FH⟩:=hu.shape;have WC:=U FH;obtain ⟨o',VU⟩:∃ o:List Int,Hid (OO[X]'sG.u=o):=⟨_,U rfl⟩;have mT:=HO.u.shape;obtain ⟨oa',Ts,e2,_,_,_,mT⟩:=mT
  injection e2 with e3 _ e5
  subst e3 e5;obtain ⟨ob,oo,rfl,r7,mT⟩:=mT (by have:=sG.u; omega);obtain ⟨yv,MU,Dv⟩:=mT X sG.u;rw [show OO[X]=o' from VU.u] at Dv;obtain ⟨ya,yc,rfl,_⟩:=Dv.shape;have CO:=U (CL.mk MU r7);clear FH mT MU Dv r7 hu
  by_cases vE:(r.length:Int)=(o'.length:Int)
  case neg =>
   skip
   gi_upto_region 10 with fail
   refine wpIn_region_list ?_;refine Rg.aE (some 33) rfl rfl (fun _ hh=>by cases hh) (a8 (.slice ua r.length uc) _ rfl rfl) ?_;go_frame;refine Rg.aE (some 34) rfl rfl (fun _ hh=>by cases hh) (g9 Tryz.underlying41) ?_;go_frame;refine Rg.aE (some 35) rfl rfl (fun _ hh=>by cases hh) (j0 (cn _ _)) ?_;go_frame;refine Rg.aE (some 36) rfl rfl (fun _ hh=>by cases hh) (g7 (.slice (some ⟨ob,oo,none⟩) OO.length oc) ⟨w.heap.size,1,none⟩ (Rg.ae _ _ Tryz.underlying22 CI.u.a1.cell)) ?_;go_frame;refine Rg.aE (some 37) rfl rfl (fun _ hh=>by cases hh) (a8 (.int .i64 ((X:Nat):Int)) _ rfl rfl) ?_;go_frame;refine Rg.aE (some 38) rfl rfl (fun _ hh=>by cases hh) (ag bI _ _ rfl ob (oo) (OO.length) oc (X) rfl rfl sG.u) ?_;go_frame;refine Rg.aE (some 39) rfl rfl (fun _ hh=>by cases hh) (g7 (.slice ya o'.length yc) ⟨ob,oo+X,none⟩ (Rg.ae _ _ Tryz.underlying26 ((Below.cell (p:=⟨ob,oo+X,none⟩) K.u CO.u.lt).trans CO.u.cell))) ?_;go_frame
   refine Rg.aE (some 40) rfl rfl (fun _ hh=>by cases hh) (g9 Tryz.underlying26) ?_;go_frame;refine Rg.aE (some 41) rfl rfl (fun _ hh=>by cases hh) (g8 (.bool true) .neq (h:=az _ f7)) ?_;go_frame;refine Rg.aE (some 42) rfl rfl (fun _ hh=>by cases hh) (a8 (.bool true) _ rfl rfl) ?_;go_frame;refine Rg.il (some 43) (by kernel_rfl) rfl ?_;go_frame;refine Rg.il (some 44) (by kernel_rfl) rfl ?_;go_frame;refine Rg.il (some 45) (by kernel_rfl) rfl ?_;go_frame;refine Rg.il (some 46) (by kernel_rfl) rfl ?_;go_frame;refine Rg.il (some 47) (by kernel_rfl) rfl ?_;go_frame;refine Rg.il (some 48) (by kernel_rfl) rfl ?_;go_frame;refine Rg.aE (some 49) rfl rfl (fun _ hh=>by cases hh) (i4 (.bool true)) ?_;go_frame
   gi_upto_region 11 with fail
   refine wpIn_region_list ?_;refine Rg.gW none rfl rfl (fun _ hh=>by cases hh) (Rg.aq _ _ _ rfl _ rfl _ rfl (dm 3 CI.u.c2.c CI.u.c2.f)) ?_;go_frame;have hk:=K.u.setCell (p:=⟨w.heap.size+1,0,none⟩) (by show w.heap.size<=w.heap.size+1; omega) (.int .i64 3);have y2:=CI.u.c2.set (.int .i64 3);have hq:=KQ.u.set (b:=w.heap.size+1) (o:=0) (.int .i64 3) (by omega);generalize W.setCell ⟨w.heap.size+1,0,none⟩ (.int .i64 3)=dH at *;have KX:=U hk;have CX:=U y2;have QX:=U hq;have Js:=U (show ¬ fk ((N:Nat):Int) OO RR from fun hh=>by have:=(hh.row sF.u sG.u).1; rw [show RR[X]=r from hr.u,show OO[X]=o' from VU.u] at this; omega);clear hk y2 hq
   gi_wp2
   exact ⟨QX.u.keeps,rfl,KX.u,CX.u,Js.u⟩
  by_cases nI:(N:Int) - (X:Int)<(r.length:Int)
  case pos =>
   skip
   gi_upto_region 10 with fail
   refine wpIn_region_list ?_;refine Rg.aE (some 33) rfl rfl (fun _ hh=>by cases hh) (a8 (.slice ua r.length uc) _ rfl rfl) ?_;go_frame;refine Rg.aE (some 34) rfl rfl (fun _ hh=>by cases hh) (g9 Tryz.underlying41) ?_;go_frame;refine Rg.aE (some 35) rfl rfl (fun _ hh=>by cases hh) (j0 (cn _ _)) ?_;go_frame;refine Rg.aE (some 36) rfl rfl (fun _ hh=>by cases hh) (g7 (.slice (some ⟨ob,oo,none⟩) OO.length oc) ⟨w.heap.size,1,none⟩ (Rg.ae _ _ Tryz.underlying22 CI.u.a1.cell)) ?_;go_frame;refine Rg.aE (some 37) rfl rfl (fun _ hh=>by cases hh) (a8 (.int .i64 ((X:Nat):Int)) _ rfl rfl) ?_;go_frame;refine Rg.aE (some 38) rfl rfl (fun _ hh=>by cases hh) (ag bI _ _ rfl ob (oo) (OO.length) oc (X) rfl rfl sG.u) ?_;go_frame;refine Rg.aE (some 39) rfl rfl (fun _ hh=>by cases hh) (g7 (.slice ya o'.length yc) ⟨ob,oo+X,none⟩ (Rg.ae _ _ Tryz.underlying26 ((Below.cell (p:=⟨ob,oo+X,none⟩) K.u CO.u.lt).trans CO.u.cell))) ?_;go_frame
   refine Rg.aE (some 40) rfl rfl (fun _ hh=>by cases hh) (g9 Tryz.underlying26) ?_;go_frame;refine Rg.aE (some 41) rfl rfl (fun _ hh=>by cases hh) (g8 (.bool false) .neq (h:=az _ f8)) ?_;go_frame;refine Rg.aE (some 42) rfl rfl (fun _ hh=>by cases hh) (a8 (.bool false) _ rfl rfl) ?_;go_frame;refine Rg.d_ (some 43) rfl rfl (fun _ hh=>by cases hh) (a8 (.slice ua r.length uc) _ rfl rfl) ?_;go_frame;refine Rg.d_ (some 44) rfl rfl (fun _ hh=>by cases hh) (g9 Tryz.underlying41) ?_;go_frame;refine Rg.d_ (some 45) rfl rfl (fun _ hh=>by cases hh) (g7 (.int .i64 ((N:Nat):Int)) ⟨(w.heap.size+2),0,none⟩ (af CI.u.c3.c)) ?_;go_frame;refine Rg.d_ (some 46) rfl rfl (fun _ hh=>by cases hh) (a8 (.int .i64 ((X:Nat):Int)) _ rfl rfl) ?_;go_frame;refine Rg.d_ (some 47) rfl rfl (fun _ hh=>by cases hh) (g8 (.int .i64 ((N:Int) - (X:Int))) .sub (h:=mI _ (by omega) (by omega))) ?_;go_frame
   refine Rg.d_ (some 48) rfl rfl (fun _ hh=>by cases hh) (g8 (.bool true) .gtr (h:=bl _ f7)) ?_;go_frame;refine Rg.aE (some 49) rfl rfl (fun _ hh=>by cases hh) (i3 (.bool true)) ?_;go_frame
   gi_upto_region 11 with fail
   refine wpIn_region_list ?_;refine Rg.gW none rfl rfl (fun _ hh=>by cases hh) (Rg.aq _ _ _ rfl _ rfl _ rfl (dm 3 CI.u.c2.c CI.u.c2.f)) ?_;go_frame;have hk:=K.u.setCell (p:=⟨w.heap.size+1,0,none⟩) (by show w.heap.size<=w.heap.size+1; omega) (.int .i64 3);have y2:=CI.u.c2.set (.int .i64 3);have hq:=KQ.u.set (b:=w.heap.size+1) (o:=0) (.int .i64 3) (by omega);generalize W.setCell ⟨w.heap.size+1,0,none⟩ (.int .i64 3)=dH at *;have KX:=U hk;have CX:=U y2;have QX:=U hq;have Js:=U (show ¬ fk ((N:Nat):Int) OO RR from fun hh=>by have:=(hh.row sF.u sG.u).2; rw [show RR[X]=r from hr.u] at this; omega);clear hk y2 hq
   gi_wp2
   exact ⟨QX.u.keeps,rfl,KX.u,CX.u,Js.u⟩
  gi_upto_region 10 with fail
  refine wpIn_region_list ?_;refine Rg.aE (some 33) rfl rfl (fun _ hh=>by cases hh) (a8 (.slice ua r.length uc) _ rfl rfl) ?_;go_frame;refine Rg.aE (some 34) rfl rfl (fun _ hh=>by cases hh) (g9 Tryz.underlying41) ?_;go_frame;refine Rg.aE (some 35) rfl rfl (fun _ hh=>by cases hh) (j0 (cn _ _)) ?_;go_frame;refine Rg.aE (some 36) rfl rfl (fun _ hh=>by cases hh) (g7 (.slice (some ⟨ob,oo,none⟩) OO.length oc) ⟨w.heap.size,1,none⟩ (Rg.ae _ _ Tryz.underlying22 CI.u.a1.cell)) ?_;go_frame;refine Rg.aE (some 37) rfl rfl (fun _ hh=>by cases hh) (a8 (.int .i64 ((X:Nat):Int)) _ rfl rfl) ?_;go_frame;refine Rg.aE (some 38) rfl rfl (fun _ hh=>by cases hh) (ag bI _ _ rfl ob (oo) (OO.length) oc (X) rfl rfl sG.u) ?_;go_frame;refine Rg.aE (some 39) rfl rfl (fun _ hh=>by cases hh) (g7 (.slice ya o'.length yc) ⟨ob,oo+X,none⟩ (Rg.ae _ _ Tryz.underlying26 ((Below.cell (p:=⟨ob,oo+X,none⟩) K.u CO.u.lt).trans CO.u.cell))) ?_;go_frame
  refine Rg.aE (some 40) rfl rfl (fun _ hh=>by cases hh) (g9 Tryz.underlying26) ?_;go_frame;refine Rg.aE (some 41) rfl rfl (fun _ hh=>by cases hh) (g8 (.bool false) .neq (h:=az _ f8)) ?_;go_frame;refine Rg.aE (some 42) rfl rfl (fun _ hh=>by cases hh) (a8 (.bool false) _ rfl rfl) ?_;go_frame;refine Rg.d_ (some 43) rfl rfl (fun _ hh=>by cases hh) (a8 (.slice ua r.length uc) _ rfl rfl) ?_;go_frame;refine Rg.d_ (some 44) rfl rfl (fun _ hh=>by cases hh) (g9 Tryz.underlying41) ?_;go_frame;refine Rg.d_ (some 45) rfl rfl (fun _ hh=>by cases hh) (g7 (.int .i64 ((N:Nat):Int)) ⟨(w.heap.size+2),0,none⟩ (af CI.u.c3.c)) ?_;go_frame;refine Rg.d_ (some 46) rfl rfl (fun _ hh=>by cases hh) (a8 (.int .i64 ((X:Nat):Int)) _ rfl rfl) ?_;go_frame;refine Rg.d_ (some 47) rfl rfl (fun _ hh=>by cases hh) (g8 (.int .i64 ((N:Int) - (X:Int))) .sub (h:=mI _ (by omega) (by omega))) ?_;go_frame
  refine Rg.d_ (some 48) rfl rfl (fun _ hh=>by cases hh) (g8 (.bool false) .gtr (h:=bl _ f8)) ?_;go_frame;refine Rg.aE (some 49) rfl rfl (fun _ hh=>by cases hh) (i3 (.bool false)) ?_;go_frame;have mQ:=U (show gs.map Ma.ah=gs.map Ma.ah++r.take 0 by simp);have r8:=U (show gs.length<=gs.length+0 from Nat.le_refl _)
  gi_wp2
  gi_loopw [52] (fun jv wr=>∃ (j:Nat) (v:Value) (gs':List (List Nat)),jv=.int .i64 j/\j<=r.length/\Hid (xG w ((N:Nat):Int) (.slice (some ⟨ob,oo,none⟩) OO.length oc) (.slice ra RR.length rc) wr v gs')/\Hid (KK B w.heap.size W wr)/\Hid (gs'.map Ma.ah=gs.map Ma.ah++r.take j)/\Hid (∀ g∈gs',Cm.Gd N g)/\Hid (gs'.length<=gs.length+j)) (fun jv _=>r.length - (intOf jv).toNat)
  case atStart=>exact ⟨0,_,_,rfl,Nat.zero_le _,CI,KQ,mQ,Az,r8⟩
  case round =>
   clear CI KQ mQ Az r8 K;obtain ⟨j,v,gs',rfl,hj,CI,KQ,mQ,Az,r8⟩:=hrel;have K:=U CI.u.dP;obtain ⟨va,vc,pB⟩:=CI.u.row.shape;subst pB
   by_cases vJ:j<r.length
   ·have CJ:(j:Int)<(r.length:Int):=by omega
    have oy:=U vJ;obtain ⟨ub,uo,rfl,pC,rh⟩:=WC.u (by omega);obtain ⟨xv,hxc,Dw⟩:=rh j vJ;obtain ⟨x,hx⟩:∃ x:List Int,Hid (r[j]'vJ=x):=⟨_,U rfl⟩
    replace Dw:Rg.Ints w xv x:=by rw [<- hx.u]; exact Dw
    obtain ⟨xa,xc,rfl,_⟩:=Dw.shape
    have pA:x.length<=1000000000:=by obtain ⟨m',a',c',e',_,Fg⟩:=Dw.len; omega
    have CX:=U (CL.mk hxc pC);have XU:=U Dw;have P3:=U (show x∈RR[X]'sF.u by rw [show RR[X]'sF.u=r from hr.u,<- hx.u]; exact List.getElem_mem vJ);have Jt:=U (show gs'.length<1000000 by have:=r8.u; have:=aab.u; omega);clear rh hxc Dw pC
    gi_upto_region 14 with fail
    refine wpIn_region_list ?_;refine Rg.aE (some 54) rfl rfl (fun _ hh=>by cases hh) (ag aK _ _ rfl ub (uo) (r.length) uc (j) rfl rfl oy.u) ?_;go_frame;refine Rg.aE (some 55) rfl rfl (fun _ hh=>by cases hh) (g7 (.slice xa x.length xc) ⟨ub,uo+j,none⟩ (Rg.ae _ _ Tryz.underlying27 ((Below.cell (p:=⟨ub,uo+j,none⟩) K.u CX.u.lt).trans CX.u.cell))) ?_;go_frame;refine Rg.aE (some 8) rfl rfl (fun _ hh=>by cases hh) (b5 (.slice xa x.length xc) _ rfl rfl) ?_;go_frame
    by_cases pz:(x.length:Int)=(N:Int)
    case neg =>
     skip
     gi_upto_region 15 with fail
     refine wpIn_region_list ?_;refine Rg.aE (some 56) rfl rfl (fun _ hh=>by cases hh) (a8 (.slice xa x.length xc) _ rfl rfl) ?_;go_frame;refine Rg.aE (some 57) rfl rfl (fun _ hh=>by cases hh) (g9 Tryz.underlying27) ?_;go_frame;refine Rg.aE (some 58) rfl rfl (fun _ hh=>by cases hh) (g7 (.int .i64 ((N:Nat):Int)) ⟨(w.heap.size+2),0,none⟩ (af CI.u.c3.c)) ?_;go_frame;refine Rg.aE (some 59) rfl rfl (fun _ hh=>by cases hh) (g8 (.bool true) .neq (h:=az _ f7)) ?_;go_frame;refine Rg.aE (some 60) rfl rfl (fun _ hh=>by cases hh) (a8 (.bool true) _ rfl rfl) ?_;go_frame;refine Rg.il (some 61) (by kernel_rfl) rfl ?_;go_frame;refine Rg.il (some 62) (by kernel_rfl) rfl ?_;go_frame;refine Rg.il (some 63) (by kernel_rfl) rfl ?_;go_frame;refine Rg.aE (some 64) rfl rfl (fun _ hh=>by cases hh) (i4 (.bool true)) ?_;go_frame
     gi_upto_region 16 with fail
     refine wpIn_region_list ?_;refine Rg.gW none rfl rfl (fun _ hh=>by cases hh) (Rg.aq _ _ _ rfl _ rfl _ rfl (dm 3 CI.u.c2.c CI.u.c2.f)) ?_;go_frame;have hk:=K.u.setCell (p:=⟨w.heap.size+1,0,none⟩) (by show w.heap.size<=w.heap.size+1; omega) (.int .i64 3);have y2:=CI.u.c2.set (.int .i64 3);have hq:=KQ.u.set (b:=w.heap.size+1) (o:=0) (.int .i64 3) (by omega);generalize wr.setCell ⟨w.heap.size+1,0,none⟩ (.int .i64 3)=dH at *;have KX:=U hk;have CX:=U y2;have QX:=U hq;have Js:=U (show ¬ fk ((N:Nat):Int) OO RR from fun hh=>pz (hh.perm sF.u P3.u).1);clear hk y2 hq
     gi_wp2
     exact ⟨QX.u.keeps,rfl,KX.u,CX.u,Js.u⟩
    by_cases pW:Ma.bU x=0
    case neg =>
     skip
     gi_upto_region 15 with fail
     refine wpIn_region_list ?_;refine Rg.aE (some 56) rfl rfl (fun _ hh=>by cases hh) (a8 (.slice xa x.length xc) _ rfl rfl) ?_;go_frame;refine Rg.aE (some 57) rfl rfl (fun _ hh=>by cases hh) (g9 Tryz.underlying27) ?_;go_frame;refine Rg.aE (some 58) rfl rfl (fun _ hh=>by cases hh) (g7 (.int .i64 ((N:Nat):Int)) ⟨(w.heap.size+2),0,none⟩ (af CI.u.c3.c)) ?_;go_frame;refine Rg.aE (some 59) rfl rfl (fun _ hh=>by cases hh) (g8 (.bool false) .neq (h:=az _ f8)) ?_;go_frame;refine Rg.aE (some 60) rfl rfl (fun _ hh=>by cases hh) (a8 (.bool false) _ rfl rfl) ?_;go_frame;refine Rg.d_ (some 61) rfl rfl (fun _ hh=>by cases hh) (a8 (.slice xa x.length xc) _ rfl rfl) ?_;go_frame;refine Rg.Fy (some 62) rfl rfl (fun _ hh=>by cases hh) _ _ (ax 68 _ _ rfl rfl (y7 _ _)) ?_;refine (ft _ _ wr (XU.u.p K.u)).mono ?_
     rintro e1 eS ⟨rfl,hb⟩;refine ⟨_,rfl,?_⟩;go_frame;replace CI:=U (CI.u.p hb);replace KQ:=U (KQ.u.p hb);replace K:=U (Rg.acc K.u hb);clear hb;refine Rg.d_ (some 63) rfl rfl (fun _ hh=>by cases hh) (g8 (.bool true) .neq (h:=az _ (decide_eq_true pW))) ?_;go_frame;refine Rg.aE (some 64) rfl rfl (fun _ hh=>by cases hh) (i3 (.bool true)) ?_;go_frame
     gi_upto_region 16 with fail
     refine wpIn_region_list ?_;refine Rg.gW none rfl rfl (fun _ hh=>by cases hh) (Rg.aq _ _ _ rfl _ rfl _ rfl (dm 3 CI.u.c2.c CI.u.c2.f)) ?_;go_frame;have hk:=K.u.setCell (p:=⟨w.heap.size+1,0,none⟩) (by show w.heap.size<=w.heap.size+1; omega) (.int .i64 3);have y2:=CI.u.c2.set (.int .i64 3);have hq:=KQ.u.set (b:=w.heap.size+1) (o:=0) (.int .i64 3) (by omega);generalize eS.setCell ⟨w.heap.size+1,0,none⟩ (.int .i64 3)=dH at *;have KX:=U hk;have CX:=U y2;have QX:=U hq;have Js:=U (show ¬ fk ((N:Nat):Int) OO RR from fun hh=>pW (hh.perm sF.u P3.u).2);clear hk y2 hq
     gi_wp2
     exact ⟨QX.u.keeps,rfl,KX.u,CX.u,Js.u⟩
    gi_upto_region 15 with fail
    refine wpIn_region_list ?_;refine Rg.aE (some 56) rfl rfl (fun _ hh=>by cases hh) (a8 (.slice xa x.length xc) _ rfl rfl) ?_;go_frame;refine Rg.aE (some 57) rfl rfl (fun _ hh=>by cases hh) (g9 Tryz.underlying27) ?_;go_frame;refine Rg.aE (some 58) rfl rfl (fun _ hh=>by cases hh) (g7 (.int .i64 ((N:Nat):Int)) ⟨(w.heap.size+2),0,none⟩ (af CI.u.c3.c)) ?_;go_frame;refine Rg.aE (some 59) rfl rfl (fun _ hh=>by cases hh) (g8 (.bool false) .neq (h:=az _ f8)) ?_;go_frame;refine Rg.aE (some 60) rfl rfl (fun _ hh=>by cases hh) (a8 (.bool false) _ rfl rfl) ?_;go_frame;refine Rg.d_ (some 61) rfl rfl (fun _ hh=>by cases hh) (a8 (.slice xa x.length xc) _ rfl rfl) ?_;go_frame;refine Rg.Fy (some 62) rfl rfl (fun _ hh=>by cases hh) _ _ (ax 68 _ _ rfl rfl (y7 _ _)) ?_;refine (ft _ _ wr (XU.u.p K.u)).mono ?_
    rintro e1 eS ⟨rfl,hb⟩;refine ⟨_,rfl,?_⟩;go_frame;replace CI:=U (CI.u.p hb);replace KQ:=U (KQ.u.p hb);replace K:=U (Rg.acc K.u hb);clear hb;refine Rg.d_ (some 63) rfl rfl (fun _ hh=>by cases hh) (g8 (.bool false) .neq (h:=az _ (decide_eq_false (fun e=>e pW)))) ?_;go_frame;refine Rg.aE (some 64) rfl rfl (fun _ hh=>by cases hh) (i3 (.bool false)) ?_;go_frame;obtain ⟨q,WD,Oq⟩:=Ma.lF (Ma.iT pW).2.2;have HGQ:=U (show Cm.Gd N q from ⟨Oq,by have:=congrArg List.length WD; rw [Ma.aB] at this; omega⟩);have HQX:=U WD;have MW:=U (show FP (fun k=>k<w.heap.size) w (.slice xa x.length xc) q from FP.yx (show Rg.NP w _ q by unfold Rg.NP; rw [<- HQX.u]; exact XU.u));clear WD Oq pW
    gi_upto_region 17 with fail
    refine wpIn_region_list ?_;refine Rg.aE (some 65) rfl rfl (fun _ hh=>by cases hh) (g7 (.slice va gs'.length vc) ⟨(w.heap.size+3),0,none⟩ (Rg.ae _ _ Tryz.underlying41 CI.u.c4.c)) ?_;go_frame;refine Rg.aE (some 66) rfl rfl (fun _ hh=>by cases hh) (a8 (.slice xa x.length xc) _ rfl rfl) ?_;go_frame;refine Rg.aE (some 67) rfl rfl (fun _ hh=>by cases hh) (Rg.aI _ _ _ rfl (.slice xa x.length xc) rfl (cV eS _ ⟨_,_,_,rfl⟩)) ?_;go_frame;obtain ⟨a9,c9,X9,r1,r2,r3,r4⟩:=CI.u.row.Pm (fun k hk=>by omega) (MW.u.p K.u) ⟨_,_,_,rfl⟩ Jt.u 41;have qf:=r3 (Nat.le_refl _) (Below.refl _ _);refine Rg.aE (some 68) rfl rfl (fun _ hh=>by cases hh) (Rg.bw _ _ _ rfl rfl rfl r1) ?_;go_frame;have WE:=CI.u.c4.upto qf (by omega);refine Rg.gW none rfl rfl (fun _ hh=>by cases hh) (Rg.aq _ _ _ rfl _ rfl _ rfl (Rg.bA _ eU WE.c WE.f)) ?_;go_frame
    have Vb:=CI.u.store qf r2;have Bp:KK B w.heap.size W (X9.setCell ⟨w.heap.size+3,0,none⟩ (.slice a9 (gs'.length+1) c9)):=(KQ.u.row r4 CI.u.row (by omega)).set _ (by omega);generalize X9.setCell ⟨w.heap.size+3,0,none⟩ (.slice a9 (gs'.length+1) c9)=w98 at *;have CI2:=U Vb;have WG:=U Bp
    have Ju:=U (show (gs'++[q]).map Ma.ah=gs.map Ma.ah++r.take (j+1) by
     rw [List.map_append,mQ.u,List.take_succ_eq_append_getElem oy.u,show r[j]=x from hx.u,HQX.u,List.append_assoc]; rfl)
    have aad:=U (show ∀ g∈gs'++[q],Cm.Gd N g from fun g hg=>by
     rcases List.mem_append.1 hg with hg | hg
     ·exact Az.u g hg
     ·rw [List.mem_singleton] at hg; rw [hg]; exact HGQ.u)
    have Dg:=U (show (gs'++[q]).length<=gs.length+(j+1) by rw [List.length_append]; have:=r8.u; simp; omega);clear Vb Bp r1 r2 r3 r4 qf WE
    gi_wp2
    go_roundw
    case rel=>exact ⟨j+1,_,_,by go_num,oy.u,CI2,WG,Ju,aad,Dg⟩
    case measure=>simp [intOf]; have:=oy.u; omega
   ·obtain rfl:j=r.length:=by omega
    have CJ:¬ (r.length:Int)<(r.length:Int):=by omega
    have aae:=U (show gs'.map Ma.ah=(pre++[⟨X,sF.u⟩]:List (Fin RR.length)).flatMap (rowOf RR) by
     have e:=mQ.u;rw [List.take_length] at e;rw [e,Df.u,List.flatMap_append];simp only [List.flatMap_cons,List.flatMap_nil,List.append_nil]
     exact congrArg (pre.flatMap (rowOf RR)++·) ((dI sF.u).trans hr.u).symm)
    have aaf:=U (show gs'.length<=64*(pre.length+1) by have:=r8.u; have:=aac.u; omega)
    gi_wp2
    exact ⟨KQ.u.keeps,KQ.u.dP,_,_,CI.u,aae.u,Az.u,by rw [List.length_append]; exact aaf.u⟩
 case stop =>
  rintro D c pre W hD ⟨rfl,h1,h2,h3⟩ hd;go_wp2;exact kr (ds:=[D]) h1 h2 (.inr ⟨by omega,.inr ⟨h3,rfl⟩⟩) rfl (by simp) (fun D' iE=>by simp at iE; subst iE; exact ⟨hd,by have:=jG.u; omega⟩)
 case done =>
  rintro D Wd hD ⟨v,gs,uf,tW,Cp,ke⟩ hd;clear FB ze CI K;rw [FE] at tW;have HD:=U (show w.heap.size<=D by have:=jG.u; omega);have DF:=U hd;have CI:=U uf;have K:=U uf.dP;have Df:=U tW;have Az:=U Cp;have Ay:=U (show gs.length<=1000000 by rw [yX (Nat.le_refl _)] at ke; have:=rf.u; omega);obtain ⟨va,vc,pB⟩:=uf.row.shape;subst pB
  have GR:=U (show Rg.Rows Wd (.slice va gs.length vc) (gs.map Ma.ah) from by
   obtain ⟨us,q1,q2⟩:=uf.row.own
   exact Rg.Rows.dL q1 (by have:=Ay.u; omega) q2.1 (fun i a b=>(q2.2 i a b).ints))
  have HH:=U (show ba Wd (.slice oa OO.length oc) (.slice ra RR.length rc) OO RR from ba.upto H.u uf.dP);clear uf tW Cp ke hd;go_upto_region 19 with fail;refine Rg.Bw ?_;have aj:Below Wd.heap.size Wd Wd.drew:=(Below.refl _ _).drew;replace CI:=U (CI.u.p aj);replace GR:=U (GR.u.p aj);replace HH:=U (HH.u.p aj);replace DF:=U (DF.u.p aj);replace K:=U (Rg.acc K.u aj);clear aj;refine Rg.Any.begin (S:=Rg.aG 6 (fun _=>True) (fun W=>Below Wd.drew.heap.size Wd.drew W)) mix ?_;generalize Wd.drew=fU at *;have hS:∀ (l:Array Bool) W,Below fU.heap.size fU W->Rg.aG 6 (fun _=>True) (fun W=>Below fU.heap.size fU W) l W:=fun l W h=>⟨.inr trivial,h⟩;have hI:Below fU.heap.size fU fU:=Below.refl _ _
  refine d7 0 6 ((.agg #[.int .i64 ((N:Nat):Int),.slice oa OO.length oc,.slice ra RR.length rc])) 70 rfl rfl (i8 ⟨w.heap.size,0,none⟩ (fun W hW=>aD ((Below.cell (p:=⟨w.heap.size,0,none⟩) hW CI.u.a0.lt).trans CI.u.a0.cell) ((Below.cell (p:=⟨w.heap.size,1,none⟩) hW CI.u.a1.lt).trans CI.u.a1.cell) ((Below.cell (p:=⟨w.heap.size,2,none⟩) hW CI.u.a2.lt).trans CI.u.a2.cell))) (hS _ _ hI)<|d7 1 6 (.int .i64 ((N:Nat):Int)) 71 rfl rfl (i8 ⟨(w.heap.size+2),0,none⟩ (fun W hW=>af ((Below.cell (p:=⟨(w.heap.size+2),0,none⟩) hW CI.u.c3.lt).trans CI.u.c3.c))) (hS _ _ hI)<|d7 2 6 (.slice va gs.length vc) 72 rfl rfl (i8 ⟨(w.heap.size+3),0,none⟩ (fun W hW=>Rg.ae _ _ Tryz.underlying41 ((Below.cell (p:=⟨(w.heap.size+3),0,none⟩) hW CI.u.c4.lt).trans CI.u.c4.c))) (hS _ _ hI) ?_;go_frame
  refine Rg.Any.one (i:=3) (by kernel_rfl) (Rg.Any.ask (some 73) rfl rfl rfl _ _ (aC 69 _ _ _ rfl rfl rfl (PY _ _)) ?_);refine (E9 eB za GR.u Az.u Ay.u).mono ?_;rintro e1 tT ⟨tb,L,F1,T1,V1,rfl,yw,wN,wO,P4,hb⟩;have HB:=U P4;have bj:=Rg.acc hI hb;clear hb hI;refine ⟨_,rfl,(hS _ _ bj),?_⟩;go_frame;have HT:=U yw;have C0:=U wN;have C1:=U wO;clear yw wN wO P4;refine Rg.Any.one (i:=4) (by kernel_rfl) (Rg.Any.ask (some 74) rfl rfl rfl _ _ (ax 70 _ _ rfl rfl (PZ _ _)) ?_);refine (yI eB za HT.u C0.u C1.u (Cm.Gr.dO Az.u) (HB.u.Ky (by omega) Az.u) (fun j hj=>(HB.u.full j hj).1)).mono ?_;rintro e1 w63 ⟨Jf,rv2,O2,R2,rfl,hO,hR,Fs,hb⟩;have cX:=U Fs;have Aw:=ba.mk hO.rows hR.rows;clear hO hR Fs;have bC:=Rg.acc bj hb;have cF:=hb;clear hb bj;refine ⟨_,rfl,(hS _ _ bC),?_⟩
  go_frame;have HF:=U Aw;clear Aw;obtain ⟨bS,WH⟩:∃ b,Hid (decide (((N:Nat):Int)=((N:Nat):Int)/\OO=O2.map Ma.ah/\RR=R2.map (List.map Ma.ah))=b):=⟨_,U rfl⟩;refine Rg.Any.one (i:=5) (by kernel_rfl) (Rg.Any.ask (some 75) rfl rfl rfl _ _ (aC 96 _ _ _ rfl rfl rfl (WA _ _)) ?_);refine (MS (HH.u.p bC) HF.u WH).mono ?_;rintro e1 WI ⟨rfl,hb⟩;have gl:=Rg.acc cF hb;have cA:=Rg.acc bC hb;have fD:=hb;clear hb cF bC;refine ⟨_,rfl,(hS _ _ cA),?_⟩;go_frame;refine i7 6 76 rfl rfl (bn _ _ bS rfl rfl) (hS _ _ cA) ?_;go_frame;refine Rg.Any.done (by kernel_rfl) ?_ _;refine Rg.nL ?_;replace CI:=U (CI.u.p cA);replace GR:=U (GR.u.p cA);replace HH:=U (HH.u.p cA);replace DF:=U (DF.u.p cA);replace HT:=U (HT.u.p gl);replace C0:=U (C0.u.p gl)
  replace C1:=U (C1.u.p gl);replace HF:=U (HF.u.p fD);replace K:=U (Rg.acc K.u cA);clear hS gl cA fD;have WJ:=U (fk.same (OO:=OO) (RR:=RR) eB za Az.u Df.u.symm cX.u)
  cases bS with
  | false =>
   have C2:=U CI.u.c2;go_upto_region 20 with fail
   refine b6<|Rg.aL none rfl rfl (Rg.aq _ _ _ rfl _ rfl _ rfl (dm 3 C2.u.c C2.u.f)) ?_;go_frame
   have hk:=K.u.setCell (p:=⟨w.heap.size+1,0,none⟩) (by show w.heap.size<=w.heap.size+1; omega) (.int .i64 3);have y2:=C2.u.set (.int .i64 3);have hdd:=RF.eX.setCell DF.u ⟨w.heap.size+1,0,none⟩ (.int .i64 3);generalize WI.setCell ⟨w.heap.size+1,0,none⟩ (.int .i64 3)=dH at *;have KX:=U hk;have CX:=U y2;have DX:=U hdd;have y_:=U (show oA ((N:Nat):Int) OO RR 3 from .inr ⟨by omega,.inr ⟨fun hh=>(of_decide_eq_false WH.u) ⟨rfl,WJ.u.1 hh⟩,rfl⟩⟩);clear hk y2 hdd;go_wp2;exact kr (ds:=[D]) KX.u CX.u y_.u rfl (by simp) (fun D' iE=>by simp at iE; subst iE; exact ⟨DX.u,HD.u⟩)
  | true =>
   have C2:=U CI.u.c2;go_upto_region 21 with fail
   refine b6<|Rg.aL none rfl rfl (Rg.aq _ _ _ rfl _ rfl _ rfl (dm 0 C2.u.c C2.u.f)) ?_;go_frame
   have hk:=K.u.setCell (p:=⟨w.heap.size+1,0,none⟩) (by show w.heap.size<=w.heap.size+1; omega) (.int .i64 0);have y2:=C2.u.set (.int .i64 0);have hdd:=RF.eX.setCell DF.u ⟨w.heap.size+1,0,none⟩ (.int .i64 0);generalize WI.setCell ⟨w.heap.size+1,0,none⟩ (.int .i64 0)=dH at *;have KX:=U hk;have CX:=U y2;have DX:=U hdd;have y_:=U (show oA ((N:Nat):Int) OO RR 0 from oA.of (WJ.u.2 (of_decide_eq_true WH.u).2));clear hk y2 hdd;go_wp2;exact kr (ds:=[D]) KX.u CX.u y_.u rfl (by simp) (fun D' iE=>by simp at iE; subst iE; exact ⟨DX.u,HD.u⟩)
end
section
open Go.RowKit
open Go.Proofs.Ob
attribute [local irreducible] Go.Calls Go.wpList
theorem WL {w:World} {u v r:Int} (t:TypeId) (hv:v≠0) (h:u.tmod v=r) (_hb:-9223372036854775808<=r/\r<=9223372036854775807):(binOp .rem t (.int .i64 u) (.int .i64 v)).run Tryz.prog w=.ok (.int .i64 r) w:=by
 simp [binOp,Op.intDiv,hv,h]

def eH:List (List Int)->Nat
 | []=>1
 | l :: r=>l.length*eH r
theorem qg (a:List (List Int)) (l:List Int):eH (a++[l])=eH a*l.length:=by
 induction a with
 | nil=>simp [eH]
 | cons x a ih=>simp only [List.cons_append,eH,ih,Nat.mul_assoc]
end
section
open Go.Proofs.Cm (Gr Gd ar cy lJ St Tr Sd Fx ap)
structure TE where
 i:Nat
 p:Nat
 u:List Nat
 w:List Nat
def WM (n:Nat) (u:List Nat):Bool:=u.all (fun x=>decide (x<n)) && decide u.Nodup && u.length == n
theorem Tt {u:List Nat} (h:WM n u=true):Gd n u:=by
 unfold WM at h;simp only [Bool.and_eq_true,List.all_eq_true,decide_eq_true_eq,beq_iff_eq] at h;obtain ⟨⟨h1,h2⟩,h3⟩:=h;exact ⟨⟨fun x hx=>by rw [h3]; exact h1 x hx,h2⟩,h3⟩
def evalW (n:Nat) (gs:List (List Nat)) (w:List Nat):List Nat:=w.foldl (fun x k=>Ma.ak x (gs.getD k (Ma.bm n))) (Ma.bm n)
theorem MX (w:List Nat):Gr n (·∈gs) (evalW n gs w):=by
 unfold evalW
 have key:∀ (w:List Nat) (x:List Nat),Gr n (·∈gs) x->Gr n (·∈gs) (w.foldl (fun x k=>Ma.ak x (gs.getD k (Ma.bm n))) x):=by
  intro w
  induction w with
  | nil=>exact fun x h=>h
  | cons k w ih =>
   intro x h;rw [List.foldl_cons];refine ih _ (.mul _ _ h ?_)
   by_cases hk:k<gs.length
   ·rw [List.getD_eq_getElem?_getD,List.getElem?_eq_getElem hk]
    exact .gen _ (List.getElem_mem hk)
   ·rw [List.getD_eq_getElem?_getD,List.getElem?_eq_none (by omega)]
    exact .one
 exact key w _ .one
end
section
open Go.RowKit
open Go.Proofs.Ob
attribute [local irreducible] Go.Calls Go.wpList
theorem fq.low {w:World} (h:Rg.fq B w v ll) (hb:Below w.heap.size w w'):Rg.fq B w' v ll:=h.p hb
def bg (d:Int) (ll:List (List Int)):Bool:=lg ll || (decide (12<d) && decide (d<=64))
end
section
open Go.RowKit
open Go.Proofs.Ob
open Go.Proofs.Cm (Lv br cd)
attribute [local irreducible] Go.Calls Go.wpList
theorem MY (gv:Value) (d:Int) (ll:List (List Int)) (w:World) (h:Rg.Rows w gv ll) :
  Calls Tryz.prog 42 #[.int .i64 d,gv] w fun e w'=>∃ cv,e=.returned (.tuple #[cv,.int .i64 (bG d ll)])/\cW w.heap.size w' d ll cv (bG d ll)/\Below w.heap.size w w':=by
 obtain ⟨ga,gc,rfl,wW,La,_,iX⟩:=h.shape;have G0:=U h;have pT:=U iX;have K:=U (Below.refl w.heap.size w);clear h iX wW
 go_enter Tryz.func42,Tryz.ntmps42
 go_upto_region 0 with fail;refine b6 ?_;have cj:=cD.new w (.int .i64 0) (.slice none 0 0) (.slice none 0 0);refine k5 (bN rfl) ?_;go_frame;have hb:=(Below.refl w.heap.size w).alloc (Nat.le_refl _) (.cells #[.int .i64 0,.slice none 0 0,.slice none 0 0] 25);generalize w.alloc (.cells #[.int .i64 0,.slice none 0 0,.slice none 0 0] 25)=w1 at *;replace G0:=U (G0.u.p hb);replace K:=U (Rg.acc K.u hb);clear hb;have FT:=U cj;refine j6 rfl ?_;go_frame;clear cj;have K1:=U (Below.refl w1.heap.size w1);have KB:=K;clear K;have sf:=FT.u.lt
 by_cases Wt:d<1
 ·have HC:=U (show bG d ll=2 by unfold bG; rw [if_neg (by omega)])
  go_upto_region 1 with fail
  refine b6<|j6 rfl<|k5 (g8 (.bool true) .lss (h:=aH _ f7))<|j9 rfl<|f9 12 ?_;go_frame
  refine f9 13<|k5 (i4 (.bool true)) ?_;go_frame
  have fh:=U (FT.u.p K1.u);have KX:=U (KB.u.trans (K1.u.mono KB.u.size));go_upto_region 2 with fail
  refine b6<|k5 (cU rfl)<|Rg.aL none rfl rfl (Rg.aq _ _ _ rfl _ rfl _ rfl (aV _ _ _ _ _ _ _ fh.u))<|j6 rfl ?_;go_frame
  have fL:=fV fh.u KX.u (Nat.le_refl _);generalize ((w1.setCell ⟨w.heap.size,0,none⟩ (.int .i64 0)).setCell ⟨w.heap.size,1,none⟩ (.slice none 0 0)).setCell ⟨w.heap.size,2,none⟩ (.slice none 0 0)=dH at *
  have jr:=U (show ∃ cv,Ending.returned (.tuple #[kn,.int .i64 (2)])=.returned (.tuple #[cv,.int .i64 (bG d ll)])/\cW w.heap.size dH d ll cv (bG d ll)/\Below w.heap.size w dH from
   ⟨_,by rw [HC.u],.inl ⟨by rw [HC.u]; decide,rfl⟩,fL.2⟩)
  have lM:=U fL.1;clear fL;go_wp2;exact bodyPost_ret (bx (p:=4) (u:=5) rfl _ rfl rfl lM.u) rfl jr.u
 by_cases Jk:64<d
 ·have HC:=U (show bG d ll=2 by unfold bG; rw [if_neg (by omega)])
  go_upto_region 1 with fail
  refine b6<|j6 rfl<|k5 (g8 (.bool false) .lss (h:=aH _ f8))<|j9 rfl<|j6 rfl ?_;go_frame
  refine k5 (g8 (.bool true) .gtr (h:=bl _ f7))<|k5 (i3 (.bool true)) ?_;go_frame
  have fh:=U (FT.u.p K1.u);have KX:=U (KB.u.trans (K1.u.mono KB.u.size));go_upto_region 2 with fail
  refine b6<|k5 (cU rfl)<|Rg.aL none rfl rfl (Rg.aq _ _ _ rfl _ rfl _ rfl (aV _ _ _ _ _ _ _ fh.u))<|j6 rfl ?_;go_frame
  have fL:=fV fh.u KX.u (Nat.le_refl _);generalize ((w1.setCell ⟨w.heap.size,0,none⟩ (.int .i64 0)).setCell ⟨w.heap.size,1,none⟩ (.slice none 0 0)).setCell ⟨w.heap.size,2,none⟩ (.slice none 0 0)=dH at *
  have jr:=U (show ∃ cv,Ending.returned (.tuple #[kn,.int .i64 (2)])=.returned (.tuple #[cv,.int .i64 (bG d ll)])/\cW w.heap.size dH d ll cv (bG d ll)/\Below w.heap.size w dH from
   ⟨_,by rw [HC.u],.inl ⟨by rw [HC.u]; decide,rfl⟩,fL.2⟩)
  have lM:=U fL.1;clear fL;go_wp2;exact bodyPost_ret (bx (p:=4) (u:=5) rfl _ rfl rfl lM.u) rfl jr.u
 have p_:1<=d/\d<=64:=by omega
 go_upto_region 1 with fail
 refine b6<|j6 rfl<|k5 (g8 (.bool false) .lss (h:=aH _ f8))<|j9 rfl<|j6 rfl ?_;go_frame
 refine k5 (g8 (.bool false) .gtr (h:=bl _ f8))<|k5 (i3 (.bool false)) ?_;go_frame
 by_cases hg1:4096<ll.length
 ·have HC:=U (show bG d ll=4 by unfold bG; rw [if_pos p_,if_neg (by omega)])
  go_upto_region 3 with fail
  refine b6<|j7 rfl<|k5 (g9 Tryz.underlying41)<|k5 (g8 (.bool true) .gtr (h:=bl _ f7)) ?_;go_frame
  have fh:=U (FT.u.p K1.u);have KX:=U (KB.u.trans (K1.u.mono KB.u.size));go_upto_region 4 with fail
  refine b6<|k5 (cU rfl)<|Rg.aL none rfl rfl (Rg.aq _ _ _ rfl _ rfl _ rfl (aV _ _ _ _ _ _ _ fh.u))<|j6 rfl ?_;go_frame
  have fL:=fV fh.u KX.u (Nat.le_refl _);generalize ((w1.setCell ⟨w.heap.size,0,none⟩ (.int .i64 0)).setCell ⟨w.heap.size,1,none⟩ (.slice none 0 0)).setCell ⟨w.heap.size,2,none⟩ (.slice none 0 0)=dH at *
  have jr:=U (show ∃ cv,Ending.returned (.tuple #[kn,.int .i64 (4)])=.returned (.tuple #[cv,.int .i64 (bG d ll)])/\cW w.heap.size dH d ll cv (bG d ll)/\Below w.heap.size w dH from
   ⟨_,by rw [HC.u],.inl ⟨by rw [HC.u]; decide,rfl⟩,fL.2⟩)
  have lM:=U fL.1;clear fL;go_wp2;exact bodyPost_ret (bx (p:=4) (u:=5) rfl _ rfl rfl lM.u) rfl jr.u
 have lN:=U (show bG d ll=Ma.js d ll by unfold bG; rw [if_pos p_,if_pos (by omega)]);have mQ:=U (show Ma.js d (ll.drop 0)=Ma.js d ll by rw [List.drop_zero]);go_upto_region 3 with fail
 refine b6<|j7 rfl<|k5 (g9 Tryz.underlying41)<|k5 (g8 (.bool false) .gtr (h:=bl _ f8)) ?_;go_frame
 go_wp2
 go_loopw [22] (fun kv wr=>∃ k:Nat,kv=.int .i64 k/\k<=ll.length/\Hid (Below w1.heap.size w1 wr)/\Hid (Ma.js d (ll.drop k)=Ma.js d ll)) (fun kv _=>ll.length - (intOf kv).toNat)
 case atStart=>exact ⟨0,rfl,Nat.zero_le _,K1,mQ⟩
 case round =>
  clear K1 mQ;obtain ⟨k,rfl,hk,K1,mQ⟩:=hrel
  by_cases bZ:k<ll.length
  ·have iC:(k:Int)<(ll.length:Int):=by omega
   have iX:=pT.u;obtain ⟨gb,go,rfl,sy,EZ⟩:=iX (by omega);obtain ⟨u,nE,tY⟩:=EZ k bZ;obtain ⟨x,hx⟩:∃ x,Hid (ll[k]=x):=⟨_,U rfl⟩;rw [hx.u] at tY;have CU:=U (CL.mk ((KB.u.cell (p:=⟨gb,go+k,none⟩) sy).trans nE) (Nat.lt_of_lt_of_le sy KB.u.size));have XU:=U (Rg.Ints.p tY KB.u);obtain ⟨xa,xc,rfl,_⟩:=tY.shape;have a_:=U bZ;have pA:=XU.u.len;have Wu:=U (show x.length<=1000000000 by obtain ⟨n,a,c,e,_,e2⟩:=pA; omega);clear iX EZ nE tY pA sy;go_upto_region 7 with fail
   refine b6<|k5 (ag aK _ _ rfl gb (go) (ll.length) gc (k) rfl rfl a_.u)<|k5 (g7 (.slice xa x.length xc) ⟨gb,go+k,none⟩ (Rg.ae _ _ Tryz.underlying27 ((Below.cell (p:=⟨gb,go+k,none⟩) K1.u CU.u.lt).trans CU.u.cell)))<|j7 rfl ?_;go_frame
   go_upto_region 8 with fail
   refine b6<|j7 rfl ?_;go_frame
   refine f3 27 (ax 68 _ _ rfl rfl (y7 _ _)) ?_;refine (ft _ _ wr (XU.u.p K1.u)).mono ?_;rintro e1 fN ⟨rfl,hb⟩;refine ⟨_,rfl,?_⟩;go_frame;replace K1:=U (Rg.acc K1.u hb);clear hb;refine j6 rfl ?_;go_frame
   by_cases pW:Ma.bU x=0
   ·by_cases PI:(x.length:Int)=d
    ·skip
     go_upto_region 9 with fail
     refine b6<|j6 rfl<|k5 (g8 (.bool false) .neq (h:=az _ f8)) ?_;go_frame
     go_upto_region 11 with fail
     refine b6<|j7 rfl<|k5 (g9 Tryz.underlying27)<|j6 rfl<|k5 (g8 (.bool false) .neq (h:=az _ f8)) ?_;go_frame
     have Wv:=U (show Ma.js d (ll.drop (k+1))=Ma.js d ll by rw [<- Ma.A_ a_.u (by rw [hx.u]; exact pW) (by rw [hx.u]; exact PI)]; exact mQ.u);go_wp2
     go_roundw
     case rel=>exact ⟨k+1,by go_num,a_.u,K1,Wv⟩
     case measure=>simp [intOf]; have:=a_.u; omega
    ·have HC:=U (show bG d ll=10 by rw [lN.u,<- mQ.u]; exact Ma.Ed a_.u (by rw [hx.u]; exact pW) (by rw [hx.u]; exact PI))
     go_upto_region 9 with fail
     refine b6<|j6 rfl<|k5 (g8 (.bool false) .neq (h:=az _ f8)) ?_;go_frame
     go_upto_region 11 with fail
     refine b6<|j7 rfl<|k5 (g9 Tryz.underlying27)<|j6 rfl<|k5 (g8 (.bool true) .neq (h:=az _ f7)) ?_;go_frame
     have fh:=U (FT.u.p K1.u);have KX:=U (KB.u.trans (K1.u.mono KB.u.size));go_upto_region 12 with fail
     refine b6<|k5 (cU rfl)<|Rg.aL none rfl rfl (Rg.aq _ _ _ rfl _ rfl _ rfl (aV _ _ _ _ _ _ _ fh.u))<|j6 rfl ?_;go_frame
     have fL:=fV fh.u KX.u (Nat.le_refl _);generalize ((fN.setCell ⟨w.heap.size,0,none⟩ (.int .i64 0)).setCell ⟨w.heap.size,1,none⟩ (.slice none 0 0)).setCell ⟨w.heap.size,2,none⟩ (.slice none 0 0)=dH at *
     have jr:=U (show ∃ cv,Ending.returned (.tuple #[kn,.int .i64 (10)])=.returned (.tuple #[cv,.int .i64 (bG d ll)])/\cW w.heap.size dH d ll cv (bG d ll)/\Below w.heap.size w dH from
      ⟨_,by rw [HC.u],.inl ⟨by rw [HC.u]; decide,rfl⟩,fL.2⟩)
     have lM:=U fL.1;clear fL;go_wp2;exact bodyPost_ret (bx (p:=4) (u:=5) rfl _ rfl rfl lM.u) rfl jr.u
   ·have HC:=U (show bG d ll=Ma.bU x by rw [lN.u,<- mQ.u,Ma.Ec a_.u (by rw [hx.u]; exact pW),hx.u])
    go_upto_region 9 with fail
    refine b6<|j6 rfl<|k5 (g8 (.bool true) .neq (h:=az _ f7)) ?_;go_frame
    have fh:=U (FT.u.p K1.u);have KX:=U (KB.u.trans (K1.u.mono KB.u.size));go_upto_region 10 with fail
    refine b6<|k5 (cU rfl)<|j6 rfl<|Rg.aL none rfl rfl (Rg.aq _ _ _ rfl _ rfl _ rfl (aV _ _ _ _ _ _ _ fh.u))<|j6 rfl ?_;go_frame
    have fL:=fV fh.u KX.u (Nat.le_refl _);generalize ((fN.setCell ⟨w.heap.size,0,none⟩ (.int .i64 0)).setCell ⟨w.heap.size,1,none⟩ (.slice none 0 0)).setCell ⟨w.heap.size,2,none⟩ (.slice none 0 0)=dH at *
    have jr:=U (show ∃ cv,Ending.returned (.tuple #[kn,.int .i64 (Ma.bU x)])=.returned (.tuple #[cv,.int .i64 (bG d ll)])/\cW w.heap.size dH d ll cv (bG d ll)/\Below w.heap.size w dH from
     ⟨_,by rw [HC.u],.inl ⟨by rw [HC.u]; exact pW,rfl⟩,fL.2⟩)
    have lM:=U fL.1;clear fL;go_wp2;exact bodyPost_ret (bx (p:=4) (u:=5) rfl _ rfl rfl lM.u) rfl jr.u
  ·obtain rfl:k=ll.length:=by omega
   have iC:¬ (ll.length:Int)<(ll.length:Int):=by omega
   have hz:=mQ.u;rw [Ma.Ee (Nat.le_refl _)] at hz;obtain ⟨n,gs,S6,q8,eA,aR,aX,ke⟩:=Pg p_.1 p_.2 hz.symm;have ss:=U q8;have Ay:=U ke;have ko:=U eA;have HC:=U (show bG d ll=0 by rw [lN.u]; exact hz.symm);subst S6;have fh:=U (FT.u.p K1.u);have KX:=U (KB.u.trans (K1.u.mono KB.u.size));have GR:=U (Rg.Rows.p G0.u K1.u);clear q8 ke eA hz;go_upto_region 14 with fail
   refine b6<|j6 rfl<|j7 rfl ?_;go_frame
   have fC:=U fh.u.lt;refine f3 40 (aC 69 _ _ _ rfl rfl rfl (PY _ _)) ?_;refine (E9 aR aX (by have:=GR.u; rw [show gs.map Ma.ah=ll from ss.u.symm]; exact this) ko.u (by have:=Ay.u; omega)).mono ?_;rintro e1 fU ⟨tb,L,F1,T1,V1,rfl,yw,wN,wO,P4,hb⟩;have HB:=U P4;have PO:=U (Nat.lt_of_lt_of_le fC.u hb.size);refine ⟨_,rfl,?_⟩;go_frame;replace fh:=U (fh.u.p hb);replace GR:=U (GR.u.p hb);replace KX:=U (Rg.acc KX.u hb);clear hb;have HT:=U yw;have C0:=U wN;have C1:=U wO;clear yw wN wO P4;refine f3 41 (ax 70 _ _ rfl rfl (PZ _ _)) ?_;refine (yI aR aX HT.u C0.u C1.u (Cm.Gr.dO ko.u) (HB.u.Ky (by omega) ko.u) (fun j hj=>(HB.u.full j hj).1)).mono ?_;rintro e1 tT ⟨ov,rv,O,R,rfl,hO,hR,Fs,hb⟩;obtain ⟨oa,oc,rfl,_⟩:=hO.rows.shape;obtain ⟨ra,rc,rfl⟩:=hR.rows.shape
   have HO:=U hO;have HR:=U hR;have cX:=U Fs;clear hO hR Fs;refine ⟨_,rfl,?_⟩;go_frame;replace fh:=U (fh.u.p hb);replace GR:=U (GR.u.p hb);replace HT:=U (HT.u.p hb);replace C0:=U (C0.u.p hb);replace C1:=U (C1.u.p hb);replace KX:=U (Rg.acc KX.u hb);clear hb
   refine Rg.aL none rfl rfl (Rg.aq _ _ _ rfl _ rfl _ rfl (aV _ _ _ _ _ _ _ fh.u))<|j6 rfl ?_;go_frame
   have Db:=fh.u.set (.int .i64 ((n:Nat):Int)) (.slice oa (O.map Ma.ah).length oc) (.slice ra (R.map (List.map Ma.ah)).length rc);have yM:=Rg.Kp.trans (Rg.Kp.trans (Rg.Kp.aU (M:=fun z=>z=w.heap.size) (w:=tT) (a:=⟨w.heap.size,0,none⟩) (v:=.int .i64 ((n:Nat):Int)) rfl) (Rg.Kp.aU (M:=fun z=>z=w.heap.size) (a:=⟨w.heap.size,1,none⟩) (v:=(.slice oa (O.map Ma.ah).length oc)) rfl) (fun _ _ e=>e)) (Rg.Kp.aU (M:=fun z=>z=w.heap.size) (a:=⟨w.heap.size,2,none⟩) (v:=(.slice ra (R.map (List.map Ma.ah)).length rc)) rfl) (fun _ _ e=>e);have hro:=aM.mono (F':=fun z=>w.heap.size<=z) (aM.kp HO.u yM (fun z g e=>by have:=PO.u; omega)) (fun z hz=>by have:=PO.u; omega);have PQ:=bs.mono (F':=fun z=>w.heap.size<=z) (HR.u.kp yM (fun z g e=>by have:=PO.u; omega)) (fun z hz=>by have:=PO.u; omega)
   have pX:=((KX.u.setCell (p:=⟨w.heap.size,0,none⟩) (Nat.le_refl _) (.int .i64 ((n:Nat):Int))).setCell (p:=⟨w.heap.size,1,none⟩) (Nat.le_refl _) (.slice oa (O.map Ma.ah).length oc)).setCell (p:=⟨w.heap.size,2,none⟩) (Nat.le_refl _) (.slice ra (R.map (List.map Ma.ah)).length rc);generalize ((tT.setCell ⟨w.heap.size,0,none⟩ (.int .i64 ((n:Nat):Int))).setCell ⟨w.heap.size,1,none⟩ (.slice oa (O.map Ma.ah).length oc)).setCell ⟨w.heap.size,2,none⟩ (.slice ra (R.map (List.map Ma.ah)).length rc)=dH at *;have lM:=U Db
   have jr:=U (show ∃ cv,Ending.returned (.tuple #[.agg #[.int .i64 ((n:Nat):Int),(.slice oa (O.map Ma.ah).length oc),(.slice ra (R.map (List.map Ma.ah)).length rc)],.int .i64 0])=.returned (.tuple #[cv,.int .i64 (bG ((n:Nat):Int) ll)])/\cW w.heap.size dH ((n:Nat):Int) ll cv (bG ((n:Nat):Int) ll)/\Below w.heap.size w dH from
    ⟨_,by rw [HC.u],.inr ⟨HC.u,n,gs,rfl,ss.u,aR,aX,_,_,O,R,rfl,hro,PQ,cX.u⟩,pX⟩)
   clear Db yM hro PQ pX;go_wp2;exact bodyPost_ret (bx (p:=4) (u:=5) rfl _ rfl rfl lM.u) rfl jr.u
end
section
open Go.RowKit
open Go.Proofs.Ob
attribute [local irreducible] Go.Calls Go.wpList
theorem Jv {w:World} {a:Option Addr} {c:Nat} {T:List (List Int)} (h:Rg.Rows w (.slice a n c) T) {i:Nat} (hi:i<T.length):∃ b o ua uc,a=some ⟨b,o,none⟩/\b<w.heap.size/\w.cell? ⟨b,o+i,none⟩=some (.slice ua T[i].length uc)/\Rg.Ints w (.slice ua T[i].length uc) T[i]:=by
 obtain ⟨a',c',e,-,-,-,hx⟩:=h.shape;simp only [Value.slice.injEq] at e;obtain ⟨rfl,rfl,rfl⟩:=e;obtain ⟨b,o,e1,e2,e3⟩:=hx (by omega);obtain ⟨u,h1,h2⟩:=e3 i hi;obtain ⟨ua,uc,rfl,-⟩:=h2.shape;exact ⟨b,o,ua,uc,e1,e2,h1,h2⟩
end
end Go.Proofs.YtpedbljnhnoohaaGreat
namespace Go.Proofs.RF
open Go Go.RowKit
section
variable {n L:Nat} {P:Program} {Q:Exit->Act->World->Prop} {md:Region.Mode} {ops:Array Oper}
theorem P5 {m:Nat} {row:String} {args:Array Value} {w:World} {R:Value->World->Prop} (h:Rows P row args w R):RowsIn (Fence.wide.inRound L) m P row args w R :=
 fun c cs _=>let ⟨v,w',r,s⟩:=h c cs; ⟨v,w',r,stepsIn_wide.2 s⟩
theorem WN {o:Oper} {a:Act} {w:World} {K:Act->World->Prop} (hd:∀ c,o.op≠.defer c) (h:o.wp P a w K Q) :
  o.wpIn (Fence.wide.inRound L) n P a w K Q:=by
 refine ⟨fun _ _=>trivial,?_⟩;rw [show (Fence.wide.inRound L).round=some L from rfl,Oper.semAt_some L a.eval o hd];unfold Oper.wp at h;generalize (execOp a.eval o).run P w=r at h
 cases r with
 | ok x w' =>
  cases x with
  | enter f args =>
   have h':Calls P f args w' _:=h;exact ⟨fun h=>by simp [Fence.wide,Fence.inRound] at h,CallsIn.inRound L (callsIn_wide.2 h')⟩
  | row r args=>exact ⟨fun h=>by simp [Fence.wide,Fence.inRound] at h,P5 h⟩
  | value v=>exact h
  | skip=>exact h
  | defer d=>exact h
  | _=>exact h.elim
 | halt x w' =>
  cases x with
  | panic v=>exact h
  | _=>exact h.elim
theorem P6 {i:Nat} {K:Act->World->Prop} {a:Act} {w:World} (hQ:∀ a w,¬ Q .outgrown a w) (hd:∀ (j:Nat) o c,ops[j]?=some o->o.op≠.defer c) (h:wpOp P ops Q i K a w) :
  wpOpIn (Fence.wide.inRound L) n P ops Q i K a w:=by
 unfold wpOp at h;unfold wpOpIn
 split
 ·rename_i ho; rw [ho] at h; exact h
 ·rename_i o ho
  rw [ho] at h;simp only at h
  split
  ·rename_i hw
   rw [if_pos hw] at h
   rcases h with h | h
   ·exact WN (fun c=>hd i o c ho) h
   ·obtain ⟨_,a',w',h'⟩:=h; exact (hQ a' w' h').elim
  ·rename_i hw
   rw [if_neg hw] at h;exact ⟨fun _ _=>trivial,h⟩
theorem By (hQ:∀ a w,¬ Q .outgrown a w) (hd:∀ (j:Nat) o c,ops[j]?=some o->o.op≠.defer c):∀ (f:Nat) (listed:Array Bool) (a:Act) (w:World),
  wpAny P md ops Q f listed a w->wpAnyIn (Fence.wide.inRound L) n P md ops Q f listed a w
 | 0,_,_,_,h=>h
 | f+1,_,_,_,h=>⟨h.1,fun i hi=>wpOpIn_mono (fun a' w'=>By hQ hd f _ a' w') (P6 hQ hd (h.2 i hi))⟩
def FL (l:List Oper):Bool:=l.all fun o=>match o.op with | .defer _=>false | _=>true
theorem AA {l:List Oper} (h:FL l=true) (j:Nat) (o:Oper) (c:Call) (ho:l.toArray[j]?=some o):o.op≠.defer c:=by
 intro e;have h1:=List.all_eq_true.1 h o (by simp at ho; exact List.mem_of_getElem? ho);rw [e] at h1;simp at h1
end
end Go.Proofs.RF
namespace Go.Proofs.Rg
open Go Go.RowKit
theorem FM {F:Fence} {P:Program} {c:Code} {Q:Exit->Act->World->Prop} {a:Act} {w:World} (h:c.wpIn F n P (Dq Q) a w):c.wpIn F n P Q a w :=
 wpIn_mono h fun e a w hq=>by cases e <;> first | exact hq | exact hq.elim
theorem Any.ug {P:Program} {Q:Exit->Act->World->Prop} {S:Array Bool->World->Prop} {id:Nat} {a:Act} {w:World} {l:List Oper} (hm:P.follows .mixedOrders=true) (hnd:RF.FL l=true)
  (h:Any P .any l.toArray (Dq Q) S l.toArray.size (Array.replicate l.toArray.size false) a w.drew):(Code.region id l.toArray true).wpIn (Fence.wide.inRound L) n P Q a w :=
 FM (wpIn_region_any hm (RF.By (fun _ _ h=>h) (fun j o c=>RF.AA hnd j o c) _ _ _ _ (Any.plain _ _ _ _ h)))
end Go.Proofs.Rg
namespace Go.Proofs.YtpedbljnhnoohaaGreat
open Go.Proofs
section
open Go.RowKit
open Go.Proofs.Ob
open Go.Shelf
open Go.Proofs.Cm (Tr)
attribute [local go_sem] Oper.semAt_some
attribute [local irreducible] Go.Calls Go.wpList Go.wpListIn
theorem i_ {P:Program} {o:Oper} {a:Act} {w:World} (t:TypeId) (x:Operand) (ho:o.op=.box t x) (hx:a.eval x=v) (hv:v.cells=#[v]) :
  (execOp a.eval o).run P w=.ok (.value (.pointer (some ⟨w.heap.size,0,none⟩))) (w.alloc (.cells #[v] t)):=by
 unfold execOp;simp [ho,hx,Instr.box,newVar,newRow,hv,Result.andThen]
end
section
open Go.RowKit
open Go.Proofs.Cm (Tr)
attribute [local irreducible] Go.Calls Go.wpList
def SS (n:Nat) (tr:Tr) (l:List (List Nat)) (a b:Nat):Prop:=(Cm.dg n (Cm.cE n tr) n (Ma.ak (l.getD a []) (l.getD b []))).1=n
end
section
open Go.Proofs.Cm (Tr dc Gr Gd Sd cE dg)
def FN (n:Nat) (tr:Tr) (x:List Nat):Tr:=lf n tr (dg n (cE n tr) n x)
structure TL (n:Nat) (gs:List Nat->Prop) (tr:Tr) (l:List (List Nat)):Prop where
 ok:dc n gs tr
 sd:∀ x∈l,Sd n (cE n tr) n x
theorem TL.nil (n:Nat) (gs:List Nat->Prop):TL n gs (fun _ _=>none) []:=⟨Cm.dc.Ph,fun x hx=>by simp at hx⟩
theorem TL.ins {gs:List Nat->Prop} (hg:∀ s,gs s->Gd n s) {tr:Tr} {l:List (List Nat)} (h:TL n gs tr l) {x:List Nat} (hx:Gr n gs x):TL n gs (FN n tr x) (l++[x]):=by
 obtain ⟨h1,h2,h3,_⟩:=tU hg h.ok hx;refine ⟨h1,fun y hy=>?_⟩
 rcases List.mem_append.1 hy with hy | hy
 ·exact Sd.mono (fun i p u _=>h2 i p u) (h.sd y hy)
 ·rw [List.mem_singleton] at hy; subst hy; exact h3
def mU (x n:Int):Int:=if x.tmod n<0 then x.tmod n+n else x.tmod n
theorem uh {x n:Int} (h0:0<n):0<=mU x n/\mU x n<n:=by
 have h2:=Int.tmod_lt_of_pos x h0
 have h3:-n<x.tmod n:=by
  have:=Int.lt_tmod_of_pos x h0;omega
 unfold mU
 split <;> omega
def P7 (n:Nat) (st:List (List Nat) × Tr) (a b:Int):List (List Nat) × Tr :=
 (st.1.set (mU a st.1.length).toNat (Ma.ak (st.1.getD (mU a st.1.length).toNat []) (st.1.getD (mU b st.1.length).toNat [])),
  FN n st.2 (Ma.ak (st.1.getD (mU a st.1.length).toNat []) (st.1.getD (mU b st.1.length).toNat [])))
def Tu (n:Nat) (s0:List (List Nat) × Tr) (ui:List Int):Nat->List (List Nat) × Tr
 | 0=>s0
 | k+1=>P7 n (Tu n s0 ui k) (ui.getD (2*k) 0) (ui.getD (2*k+1) 0)
theorem FQ {n:Nat} {s0:List (List Nat) × Tr} {ui:List Int}:∀ k,(Tu n s0 ui k).1.length=s0.1.length
 | 0=>rfl
 | k+1=>by
  show ((Tu n s0 ui k).1.set _ _).length=_;rw [List.length_set,FQ k]
structure RI (n:Nat) (gs:List Nat->Prop) (st:List (List Nat) × Tr):Prop where
 gr:∀ x∈st.1,Gr n gs x
 tl:∃ l,TL n gs st.2 l/\∀ s,gs s->s∈l
theorem Bz {l:List (List Nat)} {i:Nat} (h:i<l.length):l.getD i []∈l:=by rw [jI h]; exact List.getElem_mem h
theorem RI.step {gs:List Nat->Prop} (hg:∀ s,gs s->Gd n s) {st:List (List Nat) × Tr} (h:RI n gs st) (h0:0<st.1.length) (a b:Int):RI n gs (P7 n st a b):=by
 have ha:=uh (x:=a) (n:=st.1.length) (by omega);have hb:=uh (x:=b) (n:=st.1.length) (by omega);have hy:Gr n gs (Ma.ak (st.1.getD (mU a st.1.length).toNat []) (st.1.getD (mU b st.1.length).toNat [])):=.mul _ _ (h.gr _ (Bz (by omega))) (h.gr _ (Bz (by omega)));refine ⟨fun x hx=>?_,?_⟩
 ·rcases List.mem_or_eq_of_mem_set hx with h1 | h1
  ·exact h.gr x h1
  ·rw [h1]; exact hy
 ·obtain ⟨l,h1,h2⟩:=h.tl
  exact ⟨_,h1.ins hg hy,fun s hs=>List.mem_append.2 (.inl (h2 s hs))⟩
theorem RI.all {n:Nat} {gs:List Nat->Prop} (hg:∀ s,gs s->Gd n s) {s0:List (List Nat) × Tr} (h:RI n gs s0) (h0:0<s0.1.length) (ui:List Int):∀ k,RI n gs (Tu n s0 ui k)
 | 0=>h
 | k+1=>(RI.all hg h h0 ui k).step hg (by rw [FQ]; exact h0) _ _
def Ld (n:Nat) (l:List (List Nat)):Tr:=l.foldl (FN n) (fun _ _=>none)
theorem TL.fold {n:Nat} {gs:List Nat->Prop} (hg:∀ s,gs s->Gd n s):∀ (l pre:List (List Nat)) (tr:Tr),TL n gs tr pre->(∀ x∈l,Gr n gs x)->TL n gs (l.foldl (FN n) tr) (pre++l)
 | [],pre,tr,h,_=>by rw [List.append_nil]; exact h
 | x :: l,pre,tr,h,hx=>by
  have:=TL.fold hg l (pre++[x]) (FN n tr x) (h.ins hg (hx x (by simp))) fun y hy=>hx y (by simp [hy]);rw [List.append_assoc] at this;exact this
theorem TL.Ld {gs:List Nat->Prop} (hg:∀ s,gs s->Gd n s) (l:List (List Nat)) (h:∀ x∈l,Gr n gs x):TL n gs (Ld n l) l:=TL.fold hg l [] _ (TL.nil n gs) h
def Tv (n:Nat) (gs:List (List Nat)):List (List Nat) × Tr:=(gs++gs.map Ma.aY,Ld n gs)
theorem RI.start (hg:∀ s∈gs,Gd n s):RI n (·∈gs) (Tv n gs):=by
 refine ⟨fun x hx=>?_,gs,TL.Ld hg gs fun x hx=>.gen x hx,fun s hs=>hs⟩
 rcases List.mem_append.1 hx with h | h
 ·exact .gen x h
 ·obtain ⟨y,hy,rfl⟩:=List.mem_map.1 h
  exact (Gr.dO hg).inv y (.gen y hy)
end
section
open Go.RowKit
open Go.Proofs.Cm (Tr)
theorem dV.push {l:List (List Nat)} (h:dV F M W v l) {u:Value} {x:List Nat} (hu:FP F W u x) (hs:∃ a m c,u=.slice a m c) (hF:∀ k,F k->k<W.heap.size) (hM:∀ k,M k->k<W.heap.size) (hn:l.length<1000000) (ty:TypeId) :
  ∃ a c X,(Builtin.append_ #[41,41] ty #[v,.slice (some ⟨W.heap.size,0,none⟩) 1 1]).run Tryz.prog (W.alloc (.cells #[u] 27))=.ok (.slice a (l.length+1) c) X/\dV F M X (.slice a (l.length+1) c) (l++[x])/\Rg.Kp (fun k=>v.ownBlock=some k) W X:=by
 obtain ⟨B,us,h0,h1,h2⟩:=h.own;obtain ⟨a0,m0,c0,rfl⟩:=hs;have hb:Below W.heap.size W (W.alloc (.cells #[.slice a0 m0 c0] 27)):=(Below.refl _ _).alloc (Nat.le_refl _) _;obtain ⟨v',X,r1,r2,r3,r4,a,c,rfl⟩:=fA (P:=Tryz.prog) aK ty (Rg.bV h1 hb) (Nat.le_trans h0 hb.size) W.heap.size 1 (u:=.slice a0 m0 c0) (by rw [Rg.aT]; rfl) rfl hn;have hk:Rg.Kp (fun k=>v.ownBlock=some k) W X:=Rg.Kp.trans (M:=fun k=>v.ownBlock=some k) ((Rg.Kp.aF hb).gO fun _=>False.elim) (Rg.Kp.cH r3 fun _ e=>e) (fun _ _ e=>e);have hg:∀ k,F k->¬ v.ownBlock=some k:=fun k g e=>(h.off k e).1 g;refine ⟨a,c,X,r1,⟨⟨B,us++[.slice a0 m0 c0],Nat.le_trans h0 hk.size,by rw [List.length_append]; exact r2,by rw [List.map_append]; exact bL.snoc (h2.kp hk hg) (Rg.FI.kp hu hk hg)⟩,fun k e=>?_⟩,hk⟩
 rcases r4 with r4 | r4
 ·exact h.off k (by rw [<- r4]; exact e)
 ·rw [r4] at e
  injection e with e
  have e2:(W.alloc (.cells #[.slice a0 m0 c0] 27)).heap.size=W.heap.size+1:=by simp
  exact ⟨fun g=>by have:=hF _ g; omega,fun g=>by have:=hM _ g; omega⟩
theorem dV.set {F M:Nat->Prop} {W:World} {g c:Nat} {l:List (List Nat)} (h:dV F M W (.slice (some ⟨g,0,none⟩) l.length c) l) (i:Nat) {u:Value} {x:List Nat} (hu:FP F W u x) :
  dV F M (W.setCell ⟨g,i,none⟩ u) (.slice (some ⟨g,0,none⟩) l.length c) (l.set i x)/\Rg.Kp (fun k=>k=g) W (W.setCell ⟨g,i,none⟩ u):=by
 obtain ⟨B,us,h0,h1,h2⟩:=h.own;have hk:Rg.Kp (fun k=>k=g) W (W.setCell ⟨g,i,none⟩ u):=Rg.Kp.aU rfl;have hg:∀ k,F k->¬ k=g:=fun k e e2=>(h.off g rfl).1 (e2▸e);have S5:=h2.kp hk hg;refine ⟨⟨⟨B,us.set i u,Nat.le_trans h0 hk.size,?_,?_,fun j hj s_=>?_⟩,h.off⟩,hk⟩
 ·rw [List.length_set]; exact (h1.stored i u).1
 ·rw [List.length_set,List.length_map,List.length_set,<- List.length_map (f:=Ma.ah)]; exact h2.1
 ·have e1:j<us.length:=by rwa [List.length_set] at hj
  have e2:j<l.length:=by rwa [List.length_map,List.length_set] at s_
  by_cases e:i=j
  ·subst e
   simp only [List.getElem_set_self,List.getElem_map];exact Rg.FI.kp hu hk hg
  ·simp only [List.getElem_set_ne e,List.getElem_map]
   have:=S5.2 j e1 (by rw [List.length_map]; exact e2)
   simpa using this
theorem dV.frozen {F M:Nat->Prop} {W:World} {g n c:Nat} {l:List (List Nat)} (h:dV F M W (.slice (some ⟨g,0,none⟩) n c) l) (hn:n=l.length) (i:Nat):W.frozen? ⟨g,i,none⟩=false:=by
 subst hn;obtain ⟨B,us,h0,h1,h2⟩:=h.own;exact h1.frozenAt i
end
section
open Go.RowKit
open Go.Proofs.Cm (Tr)
attribute [local irreducible] Go.Calls Go.wpList
theorem KI.gO {F F' M M':Nat->Prop} {w w':World} (h:KI F w F' w' M) (hM:∀ z,M z->M' z):KI F w F' w' M':=⟨h.kg,h.kp.gO hM,h.new⟩
theorem KI.trans {F F' F'' M:Nat->Prop} {w w' w'':World} (h:KI F w F' w' M) (h':KI F' w' F'' w'' M):KI F w F'' w'' M :=
 ⟨h.kg.trans h'.kg,Rg.Kp.trans (M:=M) h.kp h'.kp (fun _ _ e=>e),fun k hk=>by
  rcases h'.new k hk with e | e
  ·exact h.new k e
  ·exact .inr (Nat.le_trans h.kp.size e)⟩
end
section
open Go.RowKit
open Go.Proofs.Ob
open Go.Proofs.Cm (Tr dc)
attribute [local irreducible] Go.Calls Go.wpList
theorem dV.nil (F M:Nat->Prop) (W:World):dV F M W (.slice none 0 0) []:=⟨⟨W.heap.size,[],Nat.le_refl _,World.ownsRow_nil _ _ _ _,Rg.bL.nil _ _⟩,fun k e=>by simp [Value.ownBlock] at e⟩
end
section
open Go.RowKit
open Go.Proofs.Cm (Tr)
theorem Jw {o:Oper} {a:Act} {w:World} {x1:Value} (F:FuncId) (f x:Operand) (pL:Array TypeId) (ho:o.op=.call { callee:=.value f,args:=#[x],argTypes:=pL }) (hf:a.eval f=.func (.func F) #[] #[u1]) (hx:a.eval x=x1)
  (hF:(callFunc F #[x1,u1]).run Tryz.prog w=.ok (.enter F #[x1,u1]) w):(execOp a.eval o).run Tryz.prog w=.ok (.enter F #[x1,u1]) w:=by
 unfold execOp;simp [ho,hx,hf,resolve,invoke,Deferred.ofValue,hF]
theorem CW.up {w:World} {b:Nat} (h:CW w b v) (hb:Below w.heap.size w w'):CW w' b v:=h.p hb
theorem dV.p {l:List (List Nat)} (h:dV F M W v l) (hb:Below W.heap.size W W'):dV F M W' v l:=by
 obtain ⟨B,us,g0,g1,g2⟩:=h.own;exact ⟨⟨B,us,Nat.le_trans g0 hb.size,Rg.bV g1 hb,g2.kp (M:=fun _=>False) (Rg.Kp.aF hb) (fun _ _=>id)⟩,h.off⟩
theorem KG.dP {w:World} (h:KG F0 w0 F w) (hb:Below w.heap.size w w'):KG F0 w0 F w':=h.yn (KF.aF hb)
end
section
open Go.RowKit
attribute [local irreducible] Go.Calls
theorem FU (x:Int) (w:World):Calls Tryz.prog 162 #[.int .i64 x] w fun e w'=>e=.returned (.bool false)/\w'=w:=by
 go_enter Tryz.func162,Tryz.ntmps162
 go_wp2;go_ret;exact ⟨by simp,rfl⟩
theorem kN (x:Int) (w:World):Calls Tryz.prog 141 #[.int .i64 x] w fun e w'=>e=.returned (.bool false)/\w'=w:=by
 go_enter Tryz.func141,Tryz.ntmps141
 go_wp2;go_ret;exact ⟨by simp,rfl⟩
theorem jK (x y:Int) (w:World):Calls Tryz.prog 140 #[.int .i64 x,.int .i64 y] w fun e w'=>e=.returned (.bool (decide (x<y)))/\w'=w:=by
 go_enter Tryz.func140,Tryz.ntmps140
 go_wp2_with (go_at_call 162; refine (FU _ _).mono ?_; rintro e w' ⟨rfl,rfl⟩)
 go_ret;exact ⟨rfl,rfl⟩
theorem w_ (v:Value) (l:List Int) (x:Int) (w:World) (h:Rg.Ints w v l) (hs:l.Pairwise (·<=·)) (La:l.length<1000000) :
  Calls Tryz.prog 112 #[v,.int .i64 x] w fun e w'=>e=.returned (.tuple #[.int .i64 ((l.countP (· < x):Nat):Int),.bool (l.contains x)])/\Below w.heap.size w w':=by
 obtain ⟨ad,cap,rfl,wW,_,_,aN⟩:=h.shape;have S:=U (show ∀ a b,a<=b->b<l.length->l.getD a 0<=l.getD b 0 from Lib.sorted_at l l.length (Nat.le_refl _) (by rw [List.take_length]; exact hs));have HC:=U aN;clear hs h aN wW
 go_enter Tryz.func112,Tryz.ntmps112
 go_wp2
 go_loopg [7,8] l.length (fun g s7 s8 wr=>∃ lo hi:Nat,s7=.int .i64 lo/\s8=.int .i64 hi/\lo<=hi/\hi<=l.length/\hi - lo<=g/\wr=w/\Hid ((∀ t,t<lo->l.getD t 0<x)/\(∀ t,hi<=t->t<l.length->x<=l.getD t 0)))
 case atStart=>exact ⟨0,l.length,rfl,rfl,Nat.zero_le _,Nat.le_refl _,by omega,rfl,U ⟨fun t ht=>absurd ht (Nat.not_lt_zero _),fun t h1 h2=>by omega⟩⟩
 case round =>
  obtain ⟨lo,hi,rfl,rfl,hlh,aP,hg,rfl,I⟩:=hrel
  by_cases aw:lo<hi
  ·obtain ⟨b,off,rfl,hb,hc⟩:=HC.u (by omega)
   have cm:wr.cell? ⟨b,off+(lo+hi) / 2,none⟩=some (.int .i64 (l.getD ((lo+hi) / 2) 0)):=by
    rw [hc ((lo+hi) / 2) (by omega),List.getD_eq_getElem?_getD,List.getElem?_eq_getElem (by omega)]; rfl
   clear hc;generalize hy:l.getD ((lo+hi) / 2) 0=y at cm;have Y:=U hy;clear hy
   by_cases WO:y<x
   ·go_wp2_with (first | (go_at_call 140; refine (jK _ _ _).mono ?_; rintro e w' ⟨rfl,rfl⟩) | (go_at_call 141; refine (kN _ _).mono ?_; rintro e w' ⟨rfl,rfl⟩))
    go_roundg (hi - ((lo+hi) / 2+1))
    case measure=>omega
    case rel =>
     refine ⟨(lo+hi) / 2+1,hi,by rw [show ((lo:Int)+(hi:Int)) / 2+1=(((lo+hi) / 2+1:Nat):Int) by omega],rfl,by omega,aP,Nat.le_refl _,rfl,U ⟨fun t ht=>?_,I.u.2⟩⟩;have:=S.u t ((lo+hi) / 2) (by omega) (by omega);rw [Y.u] at this;omega
   ·go_wp2_with (first | (go_at_call 140; refine (jK _ _ _).mono ?_; rintro e w' ⟨rfl,rfl⟩) | (go_at_call 141; refine (kN _ _).mono ?_; rintro e w' ⟨rfl,rfl⟩))
    go_roundg ((lo+hi) / 2 - lo)
    case measure=>omega
    case rel =>
     refine ⟨lo,(lo+hi) / 2,rfl,by rw [show ((lo:Int)+(hi:Int)) / 2=(((lo+hi) / 2:Nat):Int) by omega],by omega,by omega,Nat.le_refl _,rfl,U ⟨I.u.1,fun t ht kO=>?_⟩⟩;have:=S.u ((lo+hi) / 2) t ht kO;rw [Y.u] at this;omega
  ·have:hi=lo:=by omega
   subst this;have E:=U (Lib.search_end l l.length hi x (Nat.le_refl _) aP I.u.1 I.u.2 S.u);rw [List.take_length] at E
   by_cases hn:hi<l.length
   ·obtain ⟨b,off,rfl,hb,hc⟩:=HC.u (by omega)
    have cl:wr.cell? ⟨b,off+hi,none⟩=some (.int .i64 (l.getD hi 0)):=by
     rw [hc hi hn,List.getD_eq_getElem?_getD,List.getElem?_eq_getElem hn]; rfl
    clear hc;generalize hy:l.getD hi 0=y at cl;have Y:=U hy;clear hy
    by_cases WO:y=x
    ·go_wp2_with (first | (go_at_call 140; refine (jK _ _ _).mono ?_; rintro e w' ⟨rfl,rfl⟩) | (go_at_call 141; refine (kN _ _).mono ?_; rintro e w' ⟨rfl,rfl⟩))
     go_ret2
     refine ⟨?_,Below.refl _ _⟩;rw [E.u.1,E.u.2,Y.u,decide_eq_true (show hi<l.length/\y=x from ⟨hn,WO⟩)]
     first | rfl | simp [*]
    ·go_wp2_with (first | (go_at_call 140; refine (jK _ _ _).mono ?_; rintro e w' ⟨rfl,rfl⟩) | (go_at_call 141; refine (kN _ _).mono ?_; rintro e w' ⟨rfl,rfl⟩))
     go_ret2
     refine ⟨?_,Below.refl _ _⟩;rw [E.u.1,E.u.2,Y.u,decide_eq_false (show ¬ (hi<l.length/\y=x) from fun h=>WO h.2)]
     first | rfl | simp [*]
   ·go_wp2_with (first | (go_at_call 140; refine (jK _ _ _).mono ?_; rintro e w' ⟨rfl,rfl⟩) | (go_at_call 141; refine (kN _ _).mono ?_; rintro e w' ⟨rfl,rfl⟩))
    go_ret2
    refine ⟨?_,Below.refl _ _⟩;rw [E.u.1,E.u.2,decide_eq_false (show ¬ (hi<l.length/\l.getD hi 0=x) from fun h=>hn h.1)]
    first | rfl | simp [*]
end
section
open Go.Proofs.Cm (Gr Gd ar cy St Tr Fx ap Rp lJ Sd dg lq)
def nN (O:List (List Nat)) (R:List (List (List Nat))):Tr:=fun i p=>if p∈O.getD i [] then some ((R.getD i []).getD ((O.getD i []).idxOf p) []) else none
theorem vM {i p:Nat} (h:p∈O.getD i []):nN O R i p=some ((R.getD i []).getD ((O.getD i []).idxOf p) []):=if_pos h
theorem MZ {i p:Nat} (h:¬ p∈O.getD i []):nN O R i p=none:=if_neg h
theorem P8 {i p:Nat} {u:List Nat} (h:nN O R i p=some u):p∈O.getD i []/\u=(R.getD i []).getD ((O.getD i []).idxOf p) []:=by
 unfold nN at h
 split at h
 ·rename_i hm; injection h with h; exact ⟨hm,h.symm⟩
 ·cases h
theorem M0 {l:List Nat} {p:Nat} (h:p∈l):l.getD (l.idxOf p) 0=p:=by
 have hl:=List.idxOf_lt_length_of_mem h;rw [List.getD_eq_getElem?_getD,List.getElem?_eq_getElem hl];exact List.getElem_idxOf hl
theorem qh (h:ar n H O R) {i p:Nat} (hi:i<n) {u:List Nat} (hu:nN O R i p=some u):lq n (fun z=>St H i z/\ap z i=p) u:=by
 obtain ⟨hm,rfl⟩:=P8 hu;have:=h.rep i _ hi (List.idxOf_lt_length_of_mem hm)
 rwa [M0 hm] at this
theorem Jy (hH:cy n H) {i:Nat} (hi:i<n) {u:List Nat} (h:lq n (fun z=>St H i z/\ap z i=i) u):u=Ma.bm n:=by
 have hg:=hH.gd u h.1.1.1
 rcases h.2 (Ma.bm n) ⟨⟨hH.one,Fx.one (by omega)⟩,Cm.dD hi⟩ with e | ⟨j,hj,h1,h2⟩
 ·exact e.symm
 ·rw [Cm.dD hj] at h2
  have h3:=h1 _ h2;rw [Cm.dD (by omega)] at h3;have:=Cm.kA hg (by omega) hj h3;omega
theorem BA (hH:cy n H) (h:ar n H O R):lJ n H (nN O R):=by
 refine ⟨⟨fun i p u _ hi hu=>hH.gd u (qh h hi hu).1.1.1,fun i p u _ hi hu=>(qh h hi hu).1.1.2,fun i p u _ hi hu=>(qh h hi hu).1.2,fun i _ hi=>?_⟩,fun i p u hi hu=>(qh h hi hu).1.1.1,fun i x hi hx=>?_⟩
 ·have hm:i∈O.getD i []:=(h.orb i i hi).2 ⟨Ma.bm n,⟨hH.one,Fx.one (by omega)⟩,Cm.dD hi⟩
  have e:=vM (R:=R) hm;rw [e];exact congrArg some (Jy hH hi (qh h hi e))
 ·exact ⟨_,vM ((h.orb i _ hi).2 ⟨x,hx,rfl⟩)⟩
theorem zf:∀ {l:List Nat} {p:Nat},l.Pairwise (· < ·)->p∈l->(Ma.ah l).countP (· < ((p:Nat):Int))=l.idxOf p
 | [],p,_,h=>by simp at h
 | a :: l,p,hs,h=>by
  rw [List.pairwise_cons] at hs;show (((a:Nat):Int) :: Ma.ah l).countP _=_;rw [List.countP_cons]
  by_cases e:a=p
  ·subst e
   have:(Ma.ah l).countP (fun x=>decide (x<((a:Nat):Int)))=0:=by
    rw [List.countP_eq_zero];intro x hx;obtain ⟨y,hy,rfl⟩:=List.mem_map.1 hx;have:=hs.1 y hy;simp;omega
   rw [this];simp
  ·have hm:p∈l:=by
    rcases List.mem_cons.1 h with h | h
    ·exact absurd h.symm e
    ·exact h
   have aw:=hs.1 p hm;rw [zf hs.2 hm,List.idxOf_cons,if_pos (by simp; omega)]
   have:(a == p)=false:=by simpa using e
   rw [this]; rfl
theorem rL {l:List Nat} {p:Nat}:(Ma.ah l).contains ((p:Nat):Int)=decide (p∈l):=by
 rw [Bool.eq_iff_iff,List.contains_iff_mem,decide_eq_true_iff]
 constructor
 ·intro h
  obtain ⟨y,hy,e⟩:=List.mem_map.1 h
  have:y=p:=by omega
  exact this▸hy
 ·intro h
  exact List.mem_map.2 ⟨p,h,rfl⟩
theorem Le {l:List Nat} (h:l.Pairwise (· < ·)):(Ma.ah l).Pairwise (·<=·):=by
 unfold Ma.ah;rw [List.pairwise_map];exact h.imp (fun {a b} h=>by omega)
def AB (n:Nat) (O:List (List Nat)) (R:List (List (List Nat))) (x:List Nat):Nat × List Nat:=dg n (nN O R) n x
theorem P9 (hH:cy n H) (h:ar n H O R) {x:List Nat} (gx:Gd n x):(AB n O R x).1=n↔H x:=by
 have ht:=BA hH h
 constructor
 ·intro e
  have key:∀ d x,d<=n->Gd n x->(dg n (nN O R) d x).1=n->H (dg n (nN O R) d x).2->H x:=by
   intro d
   induction d with
   | zero=>intro x _ _ _ h; exact h
   | succ d ih =>
    intro x hd gx he hx
    cases hu:nN O R (n - (d+1)) (ap x (n - (d+1))) with
    | none =>
     rw [Cm.j_ hu] at he;simp at he;omega
    | some u =>
     rw [Cm.ig hu] at he hx;have hmu:=ht.mem _ _ _ (by omega) hu;have gu:=hH.gd u hmu;have:=ih _ (by omega) (Cm.bf gx (Cm.aQ gu)) he hx;have h2:=hH.mul _ _ this hmu
     rwa [Cm.mul_inv_cancel gx gu] at h2
  have EH:(dg n (nN O R) n x).2=Ma.bm n:=by
   have h1:=Cm.nw ht.rp (d:=n) (x:=x) (Nat.le_refl _) (Nat.zero_le _) gx (by rw [Nat.sub_self]; intro j hj; omega);refine Fx.all h1.2.2.1 ?_;have h2:=h1.2.2.2.1;have e2:(dg n (nN O R) n x).1=n:=e
   rwa [e2] at h2
  exact key n x (Nat.le_refl _) gx e (by rw [EH]; exact hH.one)
 ·intro hx
  have key:∀ d x,d<=n->St H (n - d) x->(dg n (nN O R) d x).1=n:=by
   intro d
   induction d with
   | zero=>intro x _ _; rfl
   | succ d ih =>
    intro x hd hx;obtain ⟨u,hu⟩:=ht.all (n - (d+1)) x (by omega) hx;rw [Cm.ig hu];have gx:=hH.gd x hx.1;have hs:=Cm.tF ht.rp (Nat.zero_le _) (by omega) gx hx.2 hu;refine ih _ (by omega) ⟨hH.mul _ _ hx.1 (hH.inv _ (ht.mem _ _ _ (by omega) hu)),?_⟩;rw [show n - d=n - (d+1)+1 by omega];exact hs.2
  exact key n x (Nat.le_refl _) ⟨hx,by rw [Nat.sub_self]; intro j hj; omega⟩
end
section
open Go.RowKit
open Go.Shelf
open Go.Proofs.Cm (Tr Gd ap dg)
attribute [local irreducible] Go.Calls Go.wpList
def mV (tr:Tr):List Nat->List Nat->Option (List Nat)
 | [],x=>some x
 | i :: l,x=>match tr i (ap x i) with
  | none=>none
  | some u=>mV tr l (Ma.ak x (Ma.aY u))
theorem BB (tr:Tr):∀ (l:List Nat) (x:List Nat) (i:Nat) {y u:List Nat},mV tr l x=some y->tr i (ap y i)=some u->mV tr (l++[i]) x=some (Ma.ak y (Ma.aY u))
 | [],x,i,y,u,h,h2=>by
  cases h
  show (match tr i (ap x i) with | none=>none | some u=>mV tr [] (Ma.ak x (Ma.aY u)))=_
  rw [h2]; rfl
 | j :: l,x,i,y,u,h,h2=>by
  have h':(match tr j (ap x j) with | none=>none | some u=>mV tr l (Ma.ak x (Ma.aY u)))=some y:=h
  show (match tr j (ap x j) with | none=>none | some u=>mV tr (l++[i]) (Ma.ak x (Ma.aY u)))=_
  cases e:tr j (ap x j) with
  | none=>rw [e] at h'; cases h'
  | some v =>
   rw [e] at h';exact BB tr l _ i h' h2
theorem FV (tr:Tr):∀ (l m:List Nat) (x:List Nat),mV tr (l++m) x=(mV tr l x).bind (mV tr m)
 | [],m,x=>rfl
 | j :: l,m,x=>by
  show (match tr j (ap x j) with | none=>none | some u=>mV tr (l++m) (Ma.ak x (Ma.aY u)))=Option.bind (match tr j (ap x j) with | none=>none | some u=>mV tr l (Ma.ak x (Ma.aY u))) _
  cases tr j (ap x j) with
  | none=>rfl
  | some v=>exact FV tr l m _
theorem sH {n:Nat} {tr:Tr} {x:List Nat}:∀ {k:Nat} {y:List Nat},k<=n->mV tr (List.range k) x=some y->dg n tr n x=dg n tr (n - k) y
 | 0,y,_,h=>by cases h; rfl
 | k+1,y,hk,h=>by
  rw [List.range_succ,FV] at h
  cases e:mV tr (List.range k) x with
  | none=>rw [e] at h; cases h
  | some z =>
   rw [e] at h;rw [sH (by omega) e]
   have h':(match tr k (ap z k) with | none=>none | some u=>mV tr [] (Ma.ak z (Ma.aY u)))=some y:=h
   have ek:n - (n - (k+1)+1)=k:=by omega
   rw [show n - k=n - (k+1)+1 by omega]
   cases e2:tr k (ap z k) with
   | none=>rw [e2] at h'; cases h'
   | some u =>
    rw [e2] at h'
    cases h'
    exact Cm.ig (by rw [ek]; exact e2)
theorem M1 {tr:Tr} {x y:List Nat} {k:Nat} (hk:k<n) (h:mV tr (List.range k) x=some y) (h2:tr k (ap y k)=none):dg n tr n x=(k,y):=by
 rw [sH (Nat.le_of_lt hk) h,show n - k=n - (k+1)+1 by omega]
 have ek:n - (n - (k+1)+1)=k:=by omega
 rw [Cm.j_ (by rw [ek]; exact h2),ek]
theorem M3 {tr:Tr} {x y:List Nat} (h:mV tr (List.range n) x=some y):dg n tr n x=(n,y):=by
 rw [sH (Nat.le_refl _) h,Nat.sub_self]; rfl
theorem Dx {n:Nat} {tr:Tr} (ht:∀ i p u,i<n->tr i p=some u->Gd n u):∀ {l:List Nat} {x y:List Nat},(∀ i∈l,i<n)->Gd n x->mV tr l x=some y->Gd n y
 | [],x,y,_,gx,h=>by cases h; exact gx
 | i :: l,x,y,hl,gx,h=>by
  have h':(match tr i (ap x i) with | none=>none | some u=>mV tr l (Ma.ak x (Ma.aY u)))=some y:=h
  cases e:tr i (ap x i) with
  | none=>rw [e] at h'; cases h'
  | some u =>
   rw [e] at h';exact Dx ht (fun j hj=>hl j (List.mem_cons_of_mem _ hj)) (Cm.bf gx (Cm.aQ (ht i _ u (hl i (List.mem_cons_self ..)) e))) h'
theorem lQ {m:Nat}:∀ {k:Nat},k<=m->(eh m k).map (fun x=>x.1)=List.range k
 | 0,_=>rfl
 | k+1,h=>by
  rw [ml h,List.map_append,lQ (Nat.le_of_succ_le h),List.range_succ]; rfl
theorem Dy {g:Operand} {ps:Array Go.Tmp} {assign body:Code} {Q:Exit->Act->World->Prop} {a:Act} {w:World} {m cap fb:Nat} {ad:Option Addr} {RV:Nat->Value}
  (hg:a.eval g=.func (.func 97) #[] #[.pointer (some ⟨fb,0,none⟩)]) (mR:CL w fb 2 (.slice ad m cap)) (h:Dr n₀ w ad m RV) (FD:ps.size=2)
  (I:List (Fin m)->World->Prop) (Ix:Code->List (Fin m)->World->Prop) (hI:OwnFrom w.heap.size I) (hIx:∀ c,OwnFrom w.heap.size (Ix c)) (h0:I [] w) (nM:Fin m->Act)
  (qe:∀ (l:Nat) (x:Fin m) (W:World) (K:Act->World->Prop),K (nM x) W->assign.wpIn (Fence.wide.inRound l) 1 Tryz.prog (Exit.then K (fun _ _ _=>False)) { tmps:=(ps.zip #[Value.int .i64 ((x.1:Nat):Int),RV x.1]).foldl (fun t (p,v)=>t.setIfInBounds p v) a.tmps,defers:=[] } W)
  (yY:∀ (l:Nat) (pre:List (Fin m)) (x:Fin m) (W:World),I pre W->pre.length<m->body.wpIn (Fence.wide.inRound l) 1 Tryz.prog (ownPostG w.heap.size (Below n₀) I Ix (pre++[x]) W) (nM x) W)
  (yZ:∀ (D:Nat) (W:World),w.heap.size<=D->I (eh m m) W->RF.eX D W->Q .normal { a with defers:=RF.mark D :: a.defers } W)
  (y6:∀ (D:Nat) (c:Code) (k:Nat) (W:World),w.heap.size<=D->k<=m->Ix c (eh m k) W->RF.eX D W->c.wp Tryz.prog Q { a with defers:=RF.mark D :: a.defers } W) :
  (Code.rangeFunc g ps assign body).wp Tryz.prog Q a w :=
 wpIn_wide.1 (wpIn_rangeFunc_ownG (F:=Fence.wide) (n:=3) rfl (by decide) (gf:=97) (lb:=#[.pointer (some ⟨fb,0,none⟩)]) hg trivial (enters_of Tryz.func97 (by kernel_rfl) rfl)
  (wY h mR 2 (by decide)) belowK_t (belowK_b h.sz) (Below.refl _ _) (fun _=>FD.symm) I Ix hI hIx h0 nM qe yY
  (fun D xs W hD hx hi hd=>by subst hx; exact yZ D W hD hi hd) (fun D c pre W hD hp hi hd=>by obtain ⟨k,hk,rfl⟩:=hp; exact wpIn_wide.2 (y6 D c k W hD hk hi hd)))
theorem P_ {row:Option Nat} (hg:W.grownBy W' row) (hr:∀ r,row=some r->∃ o:Obj,W.heap[r]?=some o/\o.isCells=false) {a:Addr} (h:W.cell? a=some v):W'.cell? a=some v:=by
 have key:W'.heap[a.block]?=W.heap[a.block]?:=by
  unfold World.cell? at h
  cases e:W.heap[a.block]? with
  | none=>rw [e] at h; cases h
  | some o =>
   rw [e] at h;have aw:=(Array.getElem?_eq_some_iff.1 e).1;refine (hg.block _ aw fun e2=>?_).trans e;obtain ⟨o',ho,hc⟩:=hr _ e2.symm;rw [e] at ho
   cases ho
   cases o <;> simp at h <;> cases hc
 rw [World.cell?_of_block key];exact h
theorem vN {row:Option Nat} (hg:W.grownBy W' row) (hr:∀ r,row=some r->∃ o:Obj,W.heap[r]?=some o/\o.isCells=false) {us:List Value} (h:Rg.c_ F W v us):Rg.c_ F W' v us:=by
 obtain ⟨a,cap,e,h1,h2,h3,h4⟩:=h;refine ⟨a,cap,e,h1,h2,h3,fun h0=>?_⟩;obtain ⟨b,o,e1,e2,e3,e4⟩:=h4 h0;exact ⟨b,o,e1,Nat.lt_of_lt_of_le e2 hg.size,e3,fun i hi=>P_ hg hr (e4 i hi)⟩
theorem Qa {row:Option Nat} (hg:W.grownBy W' row) (hr:∀ r,row=some r->∃ o:Obj,W.heap[r]?=some o/\o.isCells=false) {p:List Nat} (h:FP F W v p):FP F W' v p:=vN hg hr h
def xH (w:World) (z:Nat):Prop:=z<w.heap.size∨w.heap.size+4<=z
structure uj (w:World) (n:Int) (ov rv:Value) (W:World) (yv:Value) (y:List Nat):Prop where
 dP:Below w.heap.size w W
 a0:CL W w.heap.size 0 (.int .i64 n)
 a1:CL W w.heap.size 1 ov
 a2:CL W w.heap.size 2 rv
 cx:CW W (w.heap.size+1) yv
 c4:CW W (w.heap.size+2) (.slice none 0 0)
 c5:CW W (w.heap.size+3) (.int .i64 0)
 fp:FP (xH w) W yv y
theorem M4 {w:World} {p:List Nat} (h:FP F w v p) (hb:Below w.heap.size w w'):FP F w' v p:=h.kf (KF.aF hb)
theorem uj.p {w:World} {n:Int} {ov rv:Value} {W W':World} {yv:Value} {y:List Nat} (h:uj w n ov rv W yv y) (hb:Below W.heap.size W W'):uj w n ov rv W' yv y :=
 ⟨h.dP.trans (hb.mono h.dP.size),h.a0.up hb,h.a1.up hb,h.a2.up hb,h.cx.p hb,h.c4.p hb,h.c5.p hb,M4 h.fp hb⟩
theorem uj.keep {w:World} {n:Int} {y:List Nat} {row:Option Nat} (h:uj w n ov rv W yv y) (hB:w.heap.size+4<=B) (hg:W.grownBy W' row) (hr:∀ r,row=some r->B<=r/\∃ o:Obj,W.heap[r]?=some o/\o.isCells=false):uj w n ov rv W' yv y:=by
 have hk:Rg.Kp (fun k=>row=some k) W W':=Rg.Kp.cH hg fun _ e=>e
 have hM:∀ b,b<B->¬ row=some b:=fun b hb e=>by have:=(hr b e).1; omega
 exact ⟨h.dP.grown hg h.dP.size (fun k e=>by have:=(hr k e).1; omega),h.a0.kp hk (hM _ (by omega)),h.a1.kp hk (hM _ (by omega)),h.a2.kp hk (hM _ (by omega)),h.cx.kp hk (hM _ (by omega)),h.c4.kp hk (hM _ (by omega)),h.c5.kp hk (hM _ (by omega)),Qa hg (fun r e=>(hr r e).2) h.fp⟩
theorem uj.set {w:World} {n:Int} {ov rv:Value} {W:World} {yv Tw:Value} {y y':List Nat} (h:uj w n ov rv W yv y) (hp:FP (xH w) W Tw y'):uj w n ov rv (W.setCell ⟨w.heap.size+1,0,none⟩ Tw) Tw y':=by
 have hk:Rg.Kp (fun z=>z=w.heap.size+1) W (W.setCell ⟨w.heap.size+1,0,none⟩ Tw):=Rg.Kp.aU rfl;exact ⟨h.dP.setCell (p:=⟨w.heap.size+1,0,none⟩) (by show w.heap.size<=w.heap.size+1; omega) _,h.a0.kp hk (by omega),h.a1.kp hk (by omega),h.a2.kp hk (by omega),h.cx.set _,h.c4.kp hk (by omega),h.c5.kp hk (by omega),Rg.FI.kp hp hk (fun z hz e=>by unfold xH at hz; omega)⟩
theorem Tx {w:World} {p:List Nat} (hW:w.heap.size+4<=W.heap.size) (hv:Rg.nV W W' v p):FP (xH w) W' v p:=by
 refine (FP.new (F:=xH w) hv).mono fun k hk=>?_
 rcases hk with hk | hk
 ·exact hk
 ·exact .inr (by omega)
structure Qb (w W:World) (i:Nat) (yv:Value) (y:List Nat):Prop where
 dP:Below w.heap.size w W
 c4:CW W (w.heap.size+2) yv
 c5:CW W (w.heap.size+3) (.int .i64 ((i:Nat):Int))
 fp:FP (xH w) W yv y
theorem Qb.keep {w:World} {i:Nat} {y:List Nat} {row:Option Nat} (h:Qb w W i yv y) (hB:w.heap.size+4<=B) (hg:W.grownBy W' row) (hr:∀ r,row=some r->B<=r/\∃ o:Obj,W.heap[r]?=some o/\o.isCells=false):Qb w W' i yv y:=by
 have hk:Rg.Kp (fun k=>row=some k) W W':=Rg.Kp.cH hg fun _ e=>e
 have hM:∀ b,b<B->¬ row=some b:=fun b hb e=>by have:=(hr b e).1; omega
 exact ⟨h.dP.grown hg h.dP.size (fun k e=>by have:=(hr k e).1; omega),h.c4.kp hk (hM _ (by omega)),h.c5.kp hk (hM _ (by omega)),Qa hg (fun r e=>(hr r e).2) h.fp⟩
theorem uj.stop {w:World} {n:Int} {y:List Nat} (h:uj w n ov rv W yv y) (i:Nat):Qb w ((W.setCell ⟨w.heap.size+2,0,none⟩ yv).setCell ⟨w.heap.size+3,0,none⟩ (.int .i64 ((i:Nat):Int))) i yv y:=by
 have fY:Rg.Kp (fun z=>z=w.heap.size+2) W (W.setCell ⟨w.heap.size+2,0,none⟩ yv):=Rg.Kp.aU rfl;have dy:Rg.Kp (fun z=>z=w.heap.size+3) (W.setCell ⟨w.heap.size+2,0,none⟩ yv) ((W.setCell ⟨w.heap.size+2,0,none⟩ yv).setCell ⟨w.heap.size+3,0,none⟩ (.int .i64 ((i:Nat):Int))):=Rg.Kp.aU rfl
 exact ⟨(h.dP.setCell (p:=⟨w.heap.size+2,0,none⟩) (by show w.heap.size<=w.heap.size+2; omega) _).setCell (p:=⟨w.heap.size+3,0,none⟩) (by show w.heap.size<=w.heap.size+3; omega) _,(h.c4.set _).other _ (by omega),(h.c5.other _ (by omega)).set _,
  Rg.FI.kp (Rg.FI.kp h.fp fY (fun z hz e=>by unfold xH at hz; omega)) dy (fun z hz e=>by unfold xH at hz; omega)⟩
end
section
open Go.RowKit
open Go.Proofs.Ob
open Go.Shelf
open Go.Proofs.Cm (Tr Gd ap dg)
attribute [local go_sem] Oper.semAt_some
attribute [local irreducible] Go.Calls Go.wpList Go.wpListIn
theorem Jz (args:Array Value) (w:World):(callFunc 112 args).run Tryz.prog w=.ok (.enter 112 args) w:=by kernel_rfl
theorem iQ {fn:Func} {p u:Go.Tmp} {t1 t2:TypeId} (h:fn.results=#[.cell p t1,.cell u t2]) (tmps:Array Value) {w:World} {b1 b2:Nat} (hp:tmps.getD p undef=.pointer (some ⟨b1,0,none⟩)) (hu:tmps.getD u undef=.pointer (some ⟨b2,0,none⟩))
  (h1:(loadVar t1 ⟨b1,0,none⟩).run Tryz.prog w=.ok v1 w) (h2:(loadVar t2 ⟨b2,0,none⟩).run Tryz.prog w=.ok v2 w) :
  (results fn tmps).run Tryz.prog w=.ok (.tuple #[v1,v2]) w:=by
 have Cv:tmps[p]?.getD undef=.pointer (some ⟨b1,0,none⟩):=by simpa using hp
 have jt:tmps[u]?.getD undef=.pointer (some ⟨b2,0,none⟩):=by simpa using hu
 simp [results,h,Cv,jt,asAddr,h1,h2,Result.andThen]
theorem rM {o:Oper} {a:Act} {w:World} (ho:o.op=.alloc 27):(execOp a.eval o).run Tryz.prog w=.ok (.value (.pointer (some ⟨w.heap.size,0,none⟩))) (w.alloc (.cells #[.slice none 0 0] 27)):=by
 obtain ⟨i0,hi,dr,bD,dM⟩:=info_parts cR;unfold execOp;simp [ho,Instr.alloc,typeInfo,zeroValue,hi,dr,newVar,Value.cells,Result.andThen];rfl
theorem eY (hc:∀ a,W'.cell? a=W.cell? a) (hs:W.heap.size<=W'.heap.size) {us:List Value} (h:Rg.c_ F W v us):Rg.c_ F W' v us:=by
 obtain ⟨a,cap,e,h1,h2,h3,h4⟩:=h;refine ⟨a,cap,e,h1,h2,h3,fun h0=>?_⟩;obtain ⟨b,o,e1,e2,e3,e4⟩:=h4 h0;exact ⟨b,o,e1,Nat.lt_of_lt_of_le e2 hs,e3,fun i hi=>(hc _).trans (e4 i hi)⟩
def Dz (n:Nat) (O:List (List Nat)) (R:List (List (List Nat))) (x:List Nat) (w:World) (e:Ending) (w':World):Prop:=∃ v,e=.returned (.tuple #[v,.int .i64 (((AB n O R x).1:Nat):Int)])/\Rg.NP w' v (AB n O R x).2/\Below w.heap.size w w'
theorem BC {x:List Nat} {w:World} {tmps:Array Value} {y:List Nat} {i:Nat} {ds:List Nat} (hb:Below w.heap.size w W) (h4:CW W (w.heap.size+2) yv) (h5:CW W (w.heap.size+3) (.int .i64 ((i:Nat):Int))) (hp:FP (xH w) W yv y) (he:AB n O R x=(i,y)) (p4:tmps.getD 4 undef=.pointer (some ⟨w.heap.size+2,0,none⟩)) (p5:tmps.getD 5 undef=.pointer (some ⟨w.heap.size+3,0,none⟩)) (hnd:ds.Nodup) (hD:∀ D,D∈ds->RF.eX D W/\w.heap.size<=D) :
  LeavesInM Fence.wide 0 Tryz.prog Tryz.f90 tmps (Dz n O R x w) (ds.map RF.mark) .returning W :=
 RF.leaves w.heap.size ds W hnd hD fun W' l1 l2 _=>⟨_,iQ rfl _ p4 p5 (Rg.ae _ _ Tryz.underlying27 ((l2 _).trans h4.c)) (af ((l2 _).trans h5.c)),yv,by rw [he],by rw [he]; exact FP.np (eY l2 l1.size hp),hb.trans l1⟩
def SfX {m:Nat} (w:World) (tr:Tr) (x:List Nat) (pre:List (Fin m)) (W:World):Prop:=∃ wx X yv y,pre=wx++[X]/\Qb w W X.1 yv y/\mV tr (wx.map fun z=>z.1) x=some y/\tr X.1 (ap y X.1)=none
theorem DA {m k:Nat} (hk:k<=m) {pre:List (Fin m)} {x:Fin m} (h:eh m k=pre++[x]):k=x.1+1/\pre=eh m x.1:=by
 cases k with
 | zero=>have:=congrArg List.length h; simp [Fz] at this
 | succ k =>
  rw [ml hk] at h;obtain ⟨e1,e2⟩:=List.append_inj' h rfl
  injection e2 with e2
  subst e2;exact ⟨rfl,e1.symm⟩
theorem xV {y:List Nat} (h:Gd n y) {z:Nat} (hz:z∈y):z<n:=by
 obtain ⟨i,hi,rfl⟩:=List.getElem_of_mem hz;have:=Cm.cM h (i:=i) (by rw [<- h.2]; exact hi)
 rwa [Cm.jZ hi] at this
theorem Qc {l:List Nat} {q k:Nat} {w:World} (h:Rg.Ints w v (Ma.ah l)) (hs:l.Pairwise (· < ·)) (hl:l.length<1000000) (hm:q∈l) (hk:Hid (l.idxOf q=k)) :
  Calls Tryz.prog 112 #[v,.int .i64 ((q:Nat):Int)] w fun e w'=>e=.returned (.tuple #[.int .i64 ((k:Nat):Int),.bool true])/\Below w.heap.size w w':=by
 refine (w_ v (Ma.ah l) q w h (Le hs) (by rw [Ma.aB]; exact hl)).mono ?_;rintro e w' ⟨rfl,hb⟩;exact ⟨by rw [zf hs hm,rL,decide_eq_true hm,hk.u],hb⟩
theorem Ty {l:List Nat} {q:Nat} {w:World} (h:Rg.Ints w v (Ma.ah l)) (hs:l.Pairwise (· < ·)) (hl:l.length<1000000) (hm:¬ q∈l) :
  Calls Tryz.prog 112 #[v,.int .i64 ((q:Nat):Int)] w fun e w'=>∃ k,e=.returned (.tuple #[.int .i64 k,.bool false])/\Below w.heap.size w w':=by
 refine (w_ v (Ma.ah l) q w h (Le hs) (by rw [Ma.aB]; exact hl)).mono ?_;rintro e w' ⟨rfl,hb⟩;exact ⟨_,by rw [rL,decide_eq_false hm],hb⟩
theorem JA (aR:1<=n) (aX:n<=64) (hH:Cm.cy n H) (bR:Cm.ar n H O R) (Im:OO=O.map Ma.ah) (FW:RR=R.map (List.map Ma.ah)) {x:List Nat} {w:World} (h:ba w ov rv OO RR) (hx:Rg.NP w xv x) (gx:Gd n x) :
  Calls Tryz.prog 90 #[.agg #[.int .i64 ((n:Nat):Int),ov,rv],xv] w (Dz n O R x w):=by
 obtain ⟨oa,oc,rfl,-,WB,-,-⟩:=h.1.shape;obtain ⟨ra,rc,rfl⟩:=h.2.shape;obtain ⟨xa,xc,rfl,-⟩:=Rg.Ints.shape hx;have pA:x.length=n:=gx.2;rw [Ma.aB,pA] at hx ⊢;have HO:=U h.1;have HR:=U h.2;have HX:=U hx;have GX:=U gx;have HH:=U hH;have cX:=U bR;have HOO:=U Im;have WQ:=U FW;have P1:=U (show OO.length=n by rw [Im,List.length_map,bR.iK]);have rf:=U (show RR.length=n by rw [FW,List.length_map,bR.iy]);have WR:=U (show ∀ i p u,i<n->nN O R i p=some u->Gd n u from fun i p u hi hu=>(BA hH bR).rp.gd i p u (Nat.zero_le _) hi hu);have K:=U (Below.refl w.heap.size w);clear h hx gx hH bR Im FW pA;refine RF.im Tryz.func90 rfl ?_;simp only [Tryz.ntmps90,List.size_toArray,List.length_cons,List.length_nil,Nat.reduceAdd,Nat.reduceSub,Array.replicate_succ,Array.replicate_zero,List.push_toArray,List.append_toArray,List.nil_append,List.cons_append]
 have aJ:=dX w (.int .i64 ((n:Nat):Int)) (.slice oa OO.length oc) (.slice ra RR.length rc)
 have hs:(w.alloc (.cells #[.int .i64 ((n:Nat):Int),.slice oa OO.length oc,.slice ra RR.length rc] 25)).heap.size=w.heap.size+1:=by simp
 go_upto_region 0 with fail
 refine b6<|k5 (Rg.aS _ _ rfl rfl) ?_;go_frame
 have hb:Below w.heap.size w (w.alloc (.cells #[.int .i64 ((n:Nat):Int),.slice oa OO.length oc,.slice ra RR.length rc] 25)):=(Below.refl _ _).alloc (Nat.le_refl _) _;generalize w.alloc (.cells #[.int .i64 ((n:Nat):Int),.slice oa OO.length oc,.slice ra RR.length rc] 25)=w1 at *;have A0:=U aJ.1;have A1:=U aJ.2.1;have A2:=U aJ.2.2;replace K:=U hb;have mH:w1.heap.size=w.heap.size+1:=hs;clear aJ hb hs;have du:=CW.new w1 (.slice xa n xc) 27
 have hs:(w1.alloc (.cells #[.slice xa n xc] 27)).heap.size=w1.heap.size+1:=by simp
 refine k5 (i_ (v:=.slice xa n xc) _ _ rfl rfl rfl) ?_;go_frame;have hb:=(Below.refl w1.heap.size w1).alloc (Nat.le_refl _) (.cells #[.slice xa n xc] 27);generalize w1.alloc (.cells #[.slice xa n xc] 27)=w2 at *;replace A0:=U (A0.u.p hb);replace A1:=U (A1.u.p hb);replace A2:=U (A2.u.p hb);replace K:=U (Rg.acc K.u hb);clear hb;rw [mH] at du ⊢
 have jm:w2.heap.size=w.heap.size+2:=by omega
 have CX:=U du;clear du hs;have du:=CW.new w2 (.slice none 0 0) 27
 have hs:(w2.alloc (.cells #[.slice none 0 0] 27)).heap.size=w2.heap.size+1:=by simp
 refine k5 (rM rfl) ?_;go_frame;have hb:=(Below.refl w2.heap.size w2).alloc (Nat.le_refl _) (.cells #[.slice none 0 0] 27);generalize w2.alloc (.cells #[.slice none 0 0] 27)=w3 at *;replace A0:=U (A0.u.p hb);replace A1:=U (A1.u.p hb);replace A2:=U (A2.u.p hb);replace CX:=U (CX.u.p hb);replace K:=U (Rg.acc K.u hb);clear hb;rw [jm] at du ⊢
 have Du:w3.heap.size=w.heap.size+3:=by omega
 have C4:=U du;clear du hs;have du:=CW.new w3 (.int .i64 0) 3
 have hs:(w3.alloc (.cells #[.int .i64 0] 3)).heap.size=w3.heap.size+1:=by simp
 refine k5 (oB rfl) ?_;go_frame;have hb:=(Below.refl w3.heap.size w3).alloc (Nat.le_refl _) (.cells #[.int .i64 0] 3);generalize w3.alloc (.cells #[.int .i64 0] 3)=w4 at *;replace A0:=U (A0.u.p hb);replace A1:=U (A1.u.p hb);replace A2:=U (A2.u.p hb);replace CX:=U (CX.u.p hb);replace C4:=U (C4.u.p hb);replace K:=U (Rg.acc K.u hb);clear hb;rw [Du] at du ⊢
 have P0:w4.heap.size=w.heap.size+4:=by omega
 have C5:=U du;clear du hs;have Tz:=U (show Rg.Ints w4 (.slice xa n xc) (Ma.ah x) from Rg.Ints.p HX.u K.u);go_upto_region 1 with fail
 refine b6<|k5 (g7 (.slice xa n xc) ⟨(w.heap.size+1),0,none⟩ (Rg.ae _ _ Tryz.underlying27 CX.u.c)) ?_;go_frame
 refine f3 11 (ax 75 _ _ rfl rfl (vF _ _)) ?_;refine (om _ (Ma.ah x) w4 Tz.u (by rw [Ma.aB,GX.u.2]; exact aR) (by rw [Ma.aB,GX.u.2]; omega)).mono ?_;rintro e1 w5 ⟨yv0,rfl,hyr,hb⟩;have WS:FP (xH w) w5 yv0 x:=gK.fi ⟨hyr⟩ (by rw [Ma.aB,GX.u.2]; omega) (G:=xH w) (fun k g1 g2=>.inr (by omega));obtain ⟨ya0,yo0,yc0,rfl⟩:=FP.dp WS GX.u aR;clear hyr;refine ⟨_,rfl,?_⟩;go_frame;replace A0:=U (A0.u.p hb);replace A1:=U (A1.u.p hb);replace A2:=U (A2.u.p hb);replace CX:=U (CX.u.p hb);replace C4:=U (C4.u.p hb);replace C5:=U (C5.u.p hb);replace Tz:=U (Tz.u.p hb);replace K:=U (Rg.acc K.u hb);clear hb;have HY:=U WS;refine Rg.aL none rfl rfl (Rg.aq _ _ _ rfl _ rfl _ rfl (Rg.bA _ cR CX.u.c CX.u.f)) ?_;go_frame;clear WS;have l0:=uj.set (yv:=.slice xa n xc) (y:=x) (show uj w ((n:Nat):Int) (.slice oa OO.length oc) (.slice ra RR.length rc) w5 (.slice xa n xc) x from ⟨K.u,A0.u,A1.u,A2.u,CX.u,C4.u,C5.u,(show FP (xH w) w5 (.slice xa n xc) x from (Rg.FI.mono (Rg.FI.kp (Rg.FI.nW HX.u) (Rg.Kp.aF (M:=fun _=>False) K.u) (fun _ _=>id)) (fun k hk=>.inl hk)))⟩) HY.u
 have cO:w.heap.size+4<=w5.heap.size:=C5.u.lt
 have hs9:(w5.setCell ⟨w.heap.size+1,0,none⟩ (.slice (some ⟨ya0,yo0,none⟩) n yc0)).heap.size=w5.heap.size:=by simp
 rw [<- hs9] at cO;generalize w5.setCell ⟨w.heap.size+1,0,none⟩ (.slice (some ⟨ya0,yo0,none⟩) n yc0)=Ao at *;have SI:=U l0;have sx:=U cO;clear l0 cO hs9 mH jm Du P0 A0 A1 A2 CX C4 C5 Tz HY;replace K:=U SI.u.dP;go_upto_region 2 with fail
 refine b6<|k5 (g7 ((.agg #[.int .i64 ((n:Nat):Int),.slice oa OO.length oc,.slice ra RR.length rc])) ⟨w.heap.size,0,none⟩ (aD SI.u.a0.cell SI.u.a1.cell SI.u.a2.cell)) ?_;go_frame
 refine f3 13 (ax 74 _ _ rfl rfl (Jr _ _)) ?_;refine (vL _ _ _ Ao).mono ?_;rintro e1 dh ⟨fb,rfl,mR,hb⟩;have cO:=hb.size;refine ⟨_,rfl,?_⟩;go_frame;replace SI:=U (SI.u.p hb);replace K:=U (Rg.acc K.u hb);clear hb;have FB:=U mR;clear mR;have jG:=U (show w.heap.size+4<=dh.heap.size by have:=sx.u; omega);clear cO;obtain ⟨us,ph,zd,FF⟩:=HR.u;have P2:=U FF
 have FG:Dr w.heap.size dh ra RR.length (fun k=>us[k]?.getD undef):=by
  obtain ⟨a',c',e,q1,q2,q3,q4⟩:=ph
  injection e with e1 e2 e3
  refine ⟨by have:=rf.u; omega,fun h0=>?_,fun b off e5 j hj=>?_,K.u.size⟩
  ·obtain ⟨b,o,e4,e5,_⟩:=q4 (by omega)
   exact ⟨b,o,e1.trans e4,e5⟩
  ·obtain ⟨b',o',e4,e6,e7⟩:=q4 (by omega)
   rw [e1,e4] at e5;simp only [Option.some.injEq,Addr.mk.injEq,and_true] at e5;obtain ⟨rfl,rfl⟩:=e5;rw [(K.u.cell (p:=⟨b',o'+j,none⟩) e6)];show _=some (us[j]?.getD undef);rw [List.getElem?_eq_getElem (by omega)];exact e7 j (by omega)
 have ze:=U FG;have sD:=U zd;clear ph FG zd FF;go_wp2
 refine Dy rfl FB.u ze.u rfl (fun pre W=>∃ yv y,uj w ((n:Nat):Int) (.slice oa OO.length oc) (.slice ra RR.length rc) W yv y/\mV (nN O R) (pre.map fun z=>z.1) x=some y)
  (fun c pre W=>c=.ret/\SfX w (nN O R) x pre W) ?hI ?hIx ⟨_,_,SI.u,rfl⟩ ?a1 ?assign ?body ?done ?stop
 case assign =>
  intro l x W K hK
  gi_wp2
  exact hK
 case hI =>
  rintro pre W W' row ⟨yv,y,h1,h2⟩ hg hr;exact ⟨yv,y,h1.keep (by have:=jG.u; omega) hg hr,h2⟩
 case hIx =>
  rintro c pre W W' row ⟨rfl,wx,X,yv,y,h1,h2,h3⟩ hg hr;exact ⟨rfl,wx,X,yv,y,h1,h2.keep (by have:=jG.u; omega) hg hr,h3⟩
 case body =>
  rintro l pre ⟨X,hX⟩ Wb ⟨yv,y,l0,FZ⟩ MT;obtain ⟨B,hB⟩:∃ B,dh.heap.size=B:=⟨_,rfl⟩;rw [hB] at jG ⊢;clear FB ze SI K hB
  have rk:X<n:=by have:=rf.u; omega
  have gy:Gd n y:=Dx WR.u (fun i hi=>by obtain ⟨z,_,rfl⟩:=List.mem_map.1 hi; have:=z.2; have:=rf.u; omega) GX.u FZ;obtain ⟨ya,yo,yc,rfl⟩:=FP.dp l0.fp gy aR;have SI:=U l0;have K:=U l0.dP;have KQ:=U (KK.refl (B:=B) (n₀:=w.heap.size) (W:=Wb) l0.dP.size);have TA:=U FZ;have GY:=U gy;have sF:=U hX;have sG:=U (show X<OO.length by have:=P1.u; omega);have M5:=U rk;have fC:=U (show w.heap.size+4<=Wb.heap.size from l0.c5.lt);clear l0 FZ;have hu:=P2.u X (by rw [sD.u]; exact hX) hX
  have e1:us[X]?.getD undef=us[X]'(by rw [sD.u]; exact hX):=by rw [List.getElem?_eq_getElem (by rw [sD.u]; exact hX)]; rfl
  rw [<- e1] at hu
  dsimp only
  generalize us[X]?.getD undef=u at *;clear e1;obtain ⟨rl,eG⟩:∃ rl:List (List Nat),Hid (R.getD X []=rl):=⟨_,U rfl⟩;obtain ⟨ol,kL⟩:∃ ol:List Nat,Hid (O.getD X []=ol):=⟨_,U rfl⟩
  have F8:RR[X]'hX=rl.map Ma.ah:=by
   rw [<- eG.u]
   have DB:X<R.length:=by rw [cX.u.iy]; exact rk
   have:RR[X]'hX=(R.map (List.map Ma.ah))[X]'(by rw [List.length_map]; exact DB):=by first | (congr 1; done) | (congr 1; exact WQ.u)
   rw [this,List.getElem_map,dI DB]
  have TB:OO[X]'sG.u=Ma.ah ol:=by
   rw [<- kL.u]
   have TF:X<O.length:=by rw [cX.u.iK]; exact rk
   have:OO[X]'sG.u=(O.map Ma.ah)[X]'(by rw [List.length_map]; exact TF):=by first | (congr 1; done) | (congr 1; exact HOO.u)
   rw [this,List.getElem_map,dI TF]
  rw [F8] at hu;have Fc:=U (show rl.length=ol.length by rw [<- eG.u,<- kL.u]; exact cX.u.len X rk);have Vc:=U (show ol.Pairwise (· < ·) by rw [<- kL.u]; exact cX.u.jl X rk);have WB:=gX HH.u cX.u rk;rw [kL.u] at WB;obtain ⟨ua,uc,rfl,-,-,-,FH⟩:=hu.shape;have WC:=U FH;obtain ⟨oa',Ts,e2,_,_,_,mT⟩:=HO.u.shape
  injection e2 with e3 _ e5
  subst e3 e5;obtain ⟨ob,oo,rfl,r7,mT⟩:=mT (by have:=sG.u; omega);obtain ⟨yv,MU,Dv⟩:=mT X sG.u;rw [TB] at Dv;obtain ⟨qa,qc,rfl,-⟩:=Dv.shape;rw [Ma.aB] at Dv MU;rw [List.length_map];have CO:=U (CL.mk MU r7);have IO:=U Dv;obtain ⟨q,hq⟩:∃ q:Nat,Hid (ap y X=q):=⟨_,U rfl⟩;have CX:=U (show CL Wb ya (yo+X) (.int .i64 ((q:Nat):Int)) by rw [<- hq.u]; exact CL.mk (SI.u.fp.ap GY.u rk).cell (SI.u.fp.ap GY.u rk).lt);clear FH mT MU Dv r7 hu F8 TB
  by_cases hm:q∈ol
  case neg =>
   skip
   gi_upto_region 5 with fail
   have aj:Below Wb.heap.size Wb Wb.drew:=(Below.refl _ _).drew;replace SI:=U (SI.u.p aj);replace KQ:=U (KQ.u.p aj);replace CX:=U (CX.u.p aj);replace K:=U (Rg.acc K.u aj);clear aj;refine Rg.Any.ug (hnd:=by kernel_rfl) (S:=Rg.aG 14 (fun W=>Below Wb.drew.heap.size Wb.drew W) (fun W=>Below w.heap.size w W)) mix ?_;generalize Wb.drew=eS at *;have hS:∀ (l:Array Bool) W,Below eS.heap.size eS W->Below w.heap.size w W->Rg.aG 14 (fun W=>Below eS.heap.size eS W) (fun W=>Below w.heap.size w W) l W:=fun l W h h2=>⟨.inr h,h2⟩;have cT:∀ (l:Array Bool) W,l.getD 14 false=true->Below w.heap.size w W->Rg.aG 14 (fun W=>Below eS.heap.size eS W) (fun W=>Below w.heap.size w W) l W:=fun l W h h2=>⟨.inl h,h2⟩;have hI:=K.u
   refine d7 0 14 (.pointer (some ⟨w.heap.size,1,none⟩)) 17 rfl rfl (i9 fun w=>aA _ rfl rfl (cn _ _)) (hS _ _ (Below.refl _ _) hI)<|i6 1 14 (.slice (some ⟨ob,oo,none⟩) OO.length oc) 18 rfl rfl (i8 ⟨w.heap.size,1,none⟩ (fun W hW=>Rg.ae _ _ Tryz.underlying22 ((Below.cell (p:=⟨w.heap.size,1,none⟩) hW SI.u.a1.lt).trans SI.u.a1.cell))) (hS _ _ (Below.refl _ _) hI)<|d7 2 14 (.int .i64 ((X:Nat):Int)) 19 rfl rfl (i9 fun w=>Rg.bK (v:=.int .i64 ((X:Nat):Int)) _ rfl rfl) (hS _ _ (Below.refl _ _) hI)<|d7 3 14 (.pointer (some ⟨ob,oo+X,none⟩)) 20 rfl rfl (Rg.ai bI _ _ rfl rfl ob (oo) (OO.length) oc (X) rfl rfl sG.u) (hS _ _ (Below.refl _ _) hI)<|d7 4 14 (.slice qa ol.length qc) 21 rfl rfl (i8 ⟨ob,oo+X,none⟩ (fun W hW=>Rg.ae _ _ Tryz.underlying26 ((Below.cell (p:=⟨ob,oo+X,none⟩) hW CO.u.lt).trans CO.u.cell))) (hS _ _ (Below.refl _ _) hI) ?_;go_frame
   refine i6 5 14 (.slice (some ⟨ya,yo,none⟩) n yc) 22 rfl rfl (i8 ⟨(w.heap.size+1),0,none⟩ (fun W hW=>Rg.ae _ _ Tryz.underlying27 ((Below.cell (p:=⟨(w.heap.size+1),0,none⟩) hW SI.u.cx.lt).trans SI.u.cx.c))) (hS _ _ (Below.refl _ _) hI)<|d7 6 14 (.int .i64 ((X:Nat):Int)) 23 rfl rfl (i9 fun w=>Rg.bK (v:=.int .i64 ((X:Nat):Int)) _ rfl rfl) (hS _ _ (Below.refl _ _) hI)<|d7 7 14 (.pointer (some ⟨ya,yo+X,none⟩)) 24 rfl rfl (Rg.ai bB _ _ rfl rfl ya (yo) (n) yc (X) rfl rfl M5.u) (hS _ _ (Below.refl _ _) hI)<|i6 8 14 (.int .i64 ((q:Nat):Int)) 25 rfl rfl (i8 ⟨ya,yo+X,none⟩ (fun W hW=>af ((Below.cell (p:=⟨ya,yo+X,none⟩) hW CX.u.lt).trans CX.u.cell))) (hS _ _ (Below.refl _ _) hI) ?_;go_frame
   refine Rg.Any.one (i:=9) (by kernel_rfl) (Rg.Any.ask (some 26) rfl rfl rfl _ _ (aC 112 _ _ _ rfl rfl rfl (Jz _ _)) ?_);refine (Ty (IO.u.p hI) Vc.u (by omega) hm).mono ?_;rintro e1 lu ⟨kk,rfl,hb⟩;have bj:=Rg.acc hI hb;have dA:=hb;clear hb hI;refine ⟨_,rfl,(hS _ _ dA bj),?_⟩;go_frame
   refine d7 10 14 (.tuple #[.int .i64 kk,.bool false]) 16 rfl rfl (i9 fun w=>Rg.bK (v:=.tuple #[.int .i64 kk,.bool false]) _ rfl rfl) (hS _ _ dA bj)<|d7 11 14 (.int .i64 kk) 27 rfl rfl (i9 fun w=>bP (v:=.int .i64 kk) _ _ rfl rfl rfl) (hS _ _ dA bj)<|d7 12 14 (.bool false) 28 rfl rfl (i9 fun w=>bP (v:=.bool false) _ _ rfl rfl rfl) (hS _ _ dA bj)<|d7 13 14 (.int .i64 kk) 8 rfl rfl (i9 fun w=>Rg.cL (v:=.int .i64 kk) _ rfl rfl) (hS _ _ dA bj)<|i7 14 9 rfl rfl (b5 (.bool false) _ rfl rfl) (cT _ _ rfl bj) ?_;go_frame
   refine Rg.Any.done (by kernel_rfl) ?_ _;refine Rg.nL ?_;replace SI:=U (SI.u.p dA);replace KQ:=U (KQ.u.p dA);replace CX:=U (CX.u.p dA);replace K:=U bj;clear cT;clear hS bj dA
   gi_upto_region 6 with fail
   refine wpIn_region_list ?_;refine Rg.aE (some 29) rfl rfl (fun _ hh=>by cases hh) (a8 (.bool false) _ rfl rfl) ?_;go_frame;refine Rg.aE (some 30) rfl rfl (fun _ hh=>by cases hh) (bn _ _ false rfl rfl) ?_;go_frame
   gi_upto_region 7 with fail
   refine wpIn_region_list ?_;refine Rg.aE (some 31) rfl rfl (fun _ hh=>by cases hh) (g7 (.slice (some ⟨ya,yo,none⟩) n yc) ⟨(w.heap.size+1),0,none⟩ (Rg.ae _ _ Tryz.underlying27 SI.u.cx.c)) ?_;go_frame;refine Rg.aE (some 32) rfl rfl (fun _ hh=>by cases hh) (a8 (.int .i64 ((X:Nat):Int)) _ rfl rfl) ?_;go_frame;refine Rg.gW none rfl rfl (fun _ hh=>by cases hh) (Rg.aq _ _ _ rfl _ rfl _ rfl (Rg.bA _ cR SI.u.c4.c SI.u.c4.f)) ?_;go_frame;refine Rg.gW none rfl rfl (fun _ hh=>by cases hh) (Rg.aq _ _ _ rfl _ rfl _ rfl (dN _ (SI.u.c5.other _ (by omega)).c (SI.u.c5.other _ (by omega)).f)) ?_;go_frame;have Qd:=SI.u.stop X;have nI:=(KQ.u.set (b:=w.heap.size+2) (o:=0) (.slice (some ⟨ya,yo,none⟩) n yc) (by omega)).set (b:=w.heap.size+3) (o:=0) (.int .i64 ((X:Nat):Int)) (by omega)
   generalize (lu.setCell ⟨w.heap.size+2,0,none⟩ (.slice (some ⟨ya,yo,none⟩) n yc)).setCell ⟨w.heap.size+3,0,none⟩ (.int .i64 ((X:Nat):Int))=dH at *;have SS:=U Qd;have QX:=U nI;have HTN:=U (show nN O R X (ap y X)=none from MZ (by rw [kL.u,hq.u]; exact hm));have SX:=U (show SfX w (nN O R) x (pre++[⟨X,sF.u⟩]) dH from ⟨pre,⟨X,sF.u⟩,_,y,rfl,SS.u,TA.u,HTN.u⟩);clear Qd nI
   gi_wp2
   exact ⟨QX.u.keeps,rfl,SX.u⟩
  case pos =>
   obtain ⟨k,hk⟩:∃ k:Nat,Hid (ol.idxOf q=k):=⟨_,U rfl⟩
   have bZ:k<ol.length:=by rw [<- hk.u]; exact List.idxOf_lt_length_of_mem hm
   have TG:k<rl.length:=by have:=Fc.u; omega
   have HKR:=U TG;obtain ⟨ub,uo,rfl,pC,rh⟩:=WC.u (by rw [List.length_map]; omega);obtain ⟨sv,hsc,l0⟩:=rh k (by rw [List.length_map]; exact TG);obtain ⟨s,hs⟩:∃ s:List Nat,Hid (rl[k]'TG=s):=⟨_,U rfl⟩
   have sI:Rg.NP w sv s:=by rw [<- hs.u]; rw [List.getElem_map] at l0; exact l0
   have HTS:=U (show nN O R X (ap y X)=some s by
    rw [hq.u];have e:=vM (R:=R) (show q∈O.getD X [] by rw [kL.u]; exact hm)
    rw [e,kL.u,hk.u,eG.u,<- hs.u,List.getD_eq_getElem?_getD,List.getElem?_eq_getElem TG]; rfl)
   have GS:=U (WR.u X _ s rk HTS.u);obtain ⟨sa,so,sc,rfl⟩:=(FP.yx sI).dp GS.u aR;have CS:=U (CL.mk hsc pC);have NS:=U (show Rg.Ints w _ (Ma.ah s) from sI);clear rh hsc l0 sI pC
   gi_upto_region 5 with fail
   have aj:Below Wb.heap.size Wb Wb.drew:=(Below.refl _ _).drew;replace SI:=U (SI.u.p aj);replace KQ:=U (KQ.u.p aj);replace CX:=U (CX.u.p aj);replace K:=U (Rg.acc K.u aj);clear aj;refine Rg.Any.ug (hnd:=by kernel_rfl) (S:=Rg.aG 14 (fun W=>Below Wb.drew.heap.size Wb.drew W) (fun W=>Below w.heap.size w W)) mix ?_;generalize Wb.drew=eS at *;have hS:∀ (l:Array Bool) W,Below eS.heap.size eS W->Below w.heap.size w W->Rg.aG 14 (fun W=>Below eS.heap.size eS W) (fun W=>Below w.heap.size w W) l W:=fun l W h h2=>⟨.inr h,h2⟩;have cT:∀ (l:Array Bool) W,l.getD 14 false=true->Below w.heap.size w W->Rg.aG 14 (fun W=>Below eS.heap.size eS W) (fun W=>Below w.heap.size w W) l W:=fun l W h h2=>⟨.inl h,h2⟩;have hI:=K.u
   refine d7 0 14 (.pointer (some ⟨w.heap.size,1,none⟩)) 17 rfl rfl (i9 fun w=>aA _ rfl rfl (cn _ _)) (hS _ _ (Below.refl _ _) hI)<|i6 1 14 (.slice (some ⟨ob,oo,none⟩) OO.length oc) 18 rfl rfl (i8 ⟨w.heap.size,1,none⟩ (fun W hW=>Rg.ae _ _ Tryz.underlying22 ((Below.cell (p:=⟨w.heap.size,1,none⟩) hW SI.u.a1.lt).trans SI.u.a1.cell))) (hS _ _ (Below.refl _ _) hI)<|d7 2 14 (.int .i64 ((X:Nat):Int)) 19 rfl rfl (i9 fun w=>Rg.bK (v:=.int .i64 ((X:Nat):Int)) _ rfl rfl) (hS _ _ (Below.refl _ _) hI)<|d7 3 14 (.pointer (some ⟨ob,oo+X,none⟩)) 20 rfl rfl (Rg.ai bI _ _ rfl rfl ob (oo) (OO.length) oc (X) rfl rfl sG.u) (hS _ _ (Below.refl _ _) hI)<|d7 4 14 (.slice qa ol.length qc) 21 rfl rfl (i8 ⟨ob,oo+X,none⟩ (fun W hW=>Rg.ae _ _ Tryz.underlying26 ((Below.cell (p:=⟨ob,oo+X,none⟩) hW CO.u.lt).trans CO.u.cell))) (hS _ _ (Below.refl _ _) hI) ?_;go_frame
   refine i6 5 14 (.slice (some ⟨ya,yo,none⟩) n yc) 22 rfl rfl (i8 ⟨(w.heap.size+1),0,none⟩ (fun W hW=>Rg.ae _ _ Tryz.underlying27 ((Below.cell (p:=⟨(w.heap.size+1),0,none⟩) hW SI.u.cx.lt).trans SI.u.cx.c))) (hS _ _ (Below.refl _ _) hI)<|d7 6 14 (.int .i64 ((X:Nat):Int)) 23 rfl rfl (i9 fun w=>Rg.bK (v:=.int .i64 ((X:Nat):Int)) _ rfl rfl) (hS _ _ (Below.refl _ _) hI)<|d7 7 14 (.pointer (some ⟨ya,yo+X,none⟩)) 24 rfl rfl (Rg.ai bB _ _ rfl rfl ya (yo) (n) yc (X) rfl rfl M5.u) (hS _ _ (Below.refl _ _) hI)<|i6 8 14 (.int .i64 ((q:Nat):Int)) 25 rfl rfl (i8 ⟨ya,yo+X,none⟩ (fun W hW=>af ((Below.cell (p:=⟨ya,yo+X,none⟩) hW CX.u.lt).trans CX.u.cell))) (hS _ _ (Below.refl _ _) hI) ?_;go_frame
   refine Rg.Any.one (i:=9) (by kernel_rfl) (Rg.Any.ask (some 26) rfl rfl rfl _ _ (aC 112 _ _ _ rfl rfl rfl (Jz _ _)) ?_);refine (Qc (IO.u.p hI) Vc.u (by omega) hm hk).mono ?_;rintro e1 lu ⟨rfl,hb⟩;have bC:=Rg.acc hI hb;have cF:=hb;clear hb hI;refine ⟨_,rfl,(hS _ _ cF bC),?_⟩;go_frame
   refine d7 10 14 (.tuple #[.int .i64 ((k:Nat):Int),.bool true]) 16 rfl rfl (i9 fun w=>Rg.bK (v:=.tuple #[.int .i64 ((k:Nat):Int),.bool true]) _ rfl rfl) (hS _ _ cF bC)<|d7 11 14 (.int .i64 ((k:Nat):Int)) 27 rfl rfl (i9 fun w=>bP (v:=.int .i64 ((k:Nat):Int)) _ _ rfl rfl rfl) (hS _ _ cF bC)<|d7 12 14 (.bool true) 28 rfl rfl (i9 fun w=>bP (v:=.bool true) _ _ rfl rfl rfl) (hS _ _ cF bC)<|d7 13 14 (.int .i64 ((k:Nat):Int)) 8 rfl rfl (i9 fun w=>Rg.cL (v:=.int .i64 ((k:Nat):Int)) _ rfl rfl) (hS _ _ cF bC)<|i7 14 9 rfl rfl (b5 (.bool true) _ rfl rfl) (cT _ _ rfl bC) ?_;go_frame
   refine Rg.Any.done (by kernel_rfl) ?_ _;refine Rg.nL ?_;replace SI:=U (SI.u.p cF);replace KQ:=U (KQ.u.p cF);replace CX:=U (CX.u.p cF);replace K:=U bC;clear cT;clear hS bC cF
   gi_upto_region 6 with fail
   refine wpIn_region_list ?_;refine Rg.aE (some 29) rfl rfl (fun _ hh=>by cases hh) (a8 (.bool true) _ rfl rfl) ?_;go_frame;refine Rg.aE (some 30) rfl rfl (fun _ hh=>by cases hh) (bn _ _ true rfl rfl) ?_;go_frame
   gi_upto_region 8 with fail
   have aj:Below lu.heap.size lu lu.drew:=(Below.refl _ _).drew;replace SI:=U (SI.u.p aj);replace KQ:=U (KQ.u.p aj);replace CX:=U (CX.u.p aj);replace K:=U (Rg.acc K.u aj);clear aj;refine Rg.Any.ug (hnd:=by kernel_rfl) (S:=Rg.aG 7 (fun W=>Below lu.drew.heap.size lu.drew W) (fun W=>Below w.heap.size w W)) mix ?_;generalize lu.drew=xD at *;have hS:∀ (l:Array Bool) W,Below xD.heap.size xD W->Below w.heap.size w W->Rg.aG 7 (fun W=>Below xD.heap.size xD W) (fun W=>Below w.heap.size w W) l W:=fun l W h h2=>⟨.inr h,h2⟩;have cT:∀ (l:Array Bool) W,l.getD 7 false=true->Below w.heap.size w W->Rg.aG 7 (fun W=>Below xD.heap.size xD W) (fun W=>Below w.heap.size w W) l W:=fun l W h h2=>⟨.inl h,h2⟩;have hI:=K.u
   refine i6 0 7 (.slice (some ⟨ya,yo,none⟩) n yc) 33 rfl rfl (i8 ⟨(w.heap.size+1),0,none⟩ (fun W hW=>Rg.ae _ _ Tryz.underlying27 ((Below.cell (p:=⟨(w.heap.size+1),0,none⟩) hW SI.u.cx.lt).trans SI.u.cx.c))) (hS _ _ (Below.refl _ _) hI)<|d7 1 7 (.slice (some ⟨ub,uo,none⟩) rl.length uc) 34 rfl rfl (i9 fun w=>Rg.bK (v:=.slice (some ⟨ub,uo,none⟩) rl.length uc) _ rfl rfl) (hS _ _ (Below.refl _ _) hI)<|d7 2 7 (.int .i64 ((k:Nat):Int)) 35 rfl rfl (i9 fun w=>Rg.bK (v:=.int .i64 ((k:Nat):Int)) _ rfl rfl) (hS _ _ (Below.refl _ _) hI)<|d7 3 7 (.pointer (some ⟨ub,uo+k,none⟩)) 36 rfl rfl (Rg.ai aK _ _ rfl rfl ub (uo) (rl.length) uc (k) rfl rfl HKR.u) (hS _ _ (Below.refl _ _) hI)<|d7 4 7 (.slice (some ⟨sa,so,none⟩) n sc) 37 rfl rfl (i8 ⟨ub,uo+k,none⟩ (fun W hW=>Rg.ae _ _ Tryz.underlying27 ((Below.cell (p:=⟨ub,uo+k,none⟩) hW CS.u.lt).trans CS.u.cell))) (hS _ _ (Below.refl _ _) hI) ?_;go_frame
   refine Rg.Any.one (i:=5) (by kernel_rfl) (Rg.Any.ask (some 38) rfl rfl rfl _ _ (ax 118 _ _ rfl rfl (Oj _ _)) ?_);refine (ym _ s xD (NS.u.p hI) GS.u.1 (by rw [GS.u.2]; omega) (by rw [GS.u.2]; exact aR)).mono ?_;rintro e1 TI ⟨iv,rfl,po,hb⟩;replace po:Rg.Ints _ iv (Ma.ah (Ma.aY s)):=po.1;have gl:=Rg.acc hI hb;have cA:=hb;clear hb hI;refine ⟨_,rfl,(hS _ _ cA gl),?_⟩;go_frame;have IV:=U po;have HZ:=U (show w.heap.size+4<=TI.heap.size from (SI.u.p cA).c5.lt);refine Rg.Any.one (i:=6) (by kernel_rfl) (Rg.Any.ask (some 39) rfl rfl rfl _ _ (aC 117 _ _ _ rfl rfl rfl (yr _ _)) ?_);refine (yk _ _ y (Ma.aY s) TI (SI.u.p cA).fp.np IV.u (fun z hz=>by rw [(Cm.aQ GS.u).2]; exact xV GY.u hz) (by rw [GY.u.2]; omega) (by rw [GY.u.2]; exact aR) (by rw [(Cm.aQ GS.u).2]; exact aR)).mono ?_
   rintro e1 w45 ⟨mv,rfl,gJ,hb⟩;have hmf:=Tx HZ.u gJ;obtain ⟨ma,mo,mc,rfl⟩:=hmf.dp (Cm.bf GY.u (Cm.aQ GS.u)) aR;clear gJ;have mW:=Rg.acc cA hb;have qi:=Rg.acc gl hb;have iF:=hb;clear hb cA gl;refine ⟨_,rfl,(hS _ _ mW qi),?_⟩;go_frame;have MV:=U hmf;have WT:=U (SI.u.p mW);have KQ9:=U (KQ.u.p mW);have MV9:=U MV.u;have JB:=qi.setCell (p:=⟨w.heap.size+1,0,none⟩) (by show w.heap.size<=w.heap.size+1; omega) (.slice (some ⟨ma,mo,none⟩) n mc);refine Rg.Any.one (i:=7) (by kernel_rfl) (Rg.Any.dR none rfl rfl rfl (Rg.aq _ _ _ rfl _ rfl _ rfl (Rg.bA _ cR WT.u.cx.c WT.u.cx.f)) (cT _ _ rfl JB) ?_);go_frame;clear mW qi iF;clear SI;clear KQ;clear CX;clear IV;clear MV;refine Rg.Any.done (by kernel_rfl) ?_ _;refine Rg.nL ?_;replace K:=U JB
   clear cT;clear hS JB;have Vd:=WT.u.set MV9.u;have nI:=KQ9.u.set (b:=w.heap.size+1) (o:=0) (.slice (some ⟨ma,mo,none⟩) n mc) (by omega);generalize w45.setCell ⟨w.heap.size+1,0,none⟩ (.slice (some ⟨ma,mo,none⟩) n mc)=w98 at *;have SI2:=U Vd;have QX:=U nI
   have aag:=U (show mV (nN O R) ((pre++[(⟨X,sF.u⟩:Fin RR.length)]).map fun z=>z.1) x=some (Ma.ak y (Ma.aY s)) by
    rw [List.map_append]
    exact BB _ _ _ _ TA.u HTS.u)
   clear Vd nI
   gi_wp2
   exact ⟨QX.u.keeps,QX.u.dP,_,_,SI2.u,aag.u⟩
 case stop =>
  rintro D c k W hD hk ⟨rfl,wx,X,yv,y,h1,h2,h3,h4⟩ hd;obtain ⟨rfl,rfl⟩:=DA hk h1;rw [lQ (by omega)] at h3;go_wp2;exact BC (ds:=[D]) h2.dP h2.c4 h2.c5 h2.fp (M1 (by have:=X.2; have:=rf.u; omega) h3 h4) rfl rfl (by simp) (fun D' iE=>by simp at iE; subst iE; exact ⟨hd,by have:=jG.u; omega⟩)
 case done =>
  rintro D Wd hD ⟨yv,y,l0,FZ⟩ hd;rw [lQ (Nat.le_refl _),rf.u] at FZ;have gy:Gd n y:=Dx WR.u (fun i hi=>List.mem_range.1 hi) GX.u FZ;obtain ⟨ya,yo,yc,rfl⟩:=FP.dp l0.fp gy aR;have TA:=U FZ;have HD:=U (show w.heap.size<=D by have:=jG.u; omega);clear FB ze SI K FZ;have SI:=U l0;have DF:=U hd;have K:=U l0.dP;clear l0 hd;go_upto_region 9 with fail;have eF:Below Wd.heap.size Wd Wd.drew:=(Below.refl _ _).drew;replace SI:=U (SI.u.p eF);replace DF:=U (DF.u.p eF);clear eF;refine Rg.Bw ?_;have aj:Below Wd.heap.size Wd Wd.drew:=(Below.refl _ _).drew;generalize cB (fun _:Nat=>True) Wd Wd.drew=F1 at *;clear aj;refine Rg.Any.begin (S:=Rg.aG 4 (fun W:World=>W.cell? ⟨w.heap.size,0,none⟩=some (.int .i64 ((n:Nat):Int))/\W.cell? ⟨w.heap.size+1,0,none⟩=some (.slice (some ⟨ya,yo,none⟩) n yc)) (fun _=>True)) mix ?_
  generalize Wd.drew=Ve at *;have hS:∀ (l:Array Bool) W,(fun W:World=>W.cell? ⟨w.heap.size,0,none⟩=some (.int .i64 ((n:Nat):Int))/\W.cell? ⟨w.heap.size+1,0,none⟩=some (.slice (some ⟨ya,yo,none⟩) n yc)) W->Rg.aG 4 (fun W:World=>W.cell? ⟨w.heap.size,0,none⟩=some (.int .i64 ((n:Nat):Int))/\W.cell? ⟨w.heap.size+1,0,none⟩=some (.slice (some ⟨ya,yo,none⟩) n yc)) (fun _=>True) l W:=fun l W h=>⟨.inr h,trivial⟩;have cT:∀ (l:Array Bool) W,l.getD 4 false=true->Rg.aG 4 (fun W:World=>W.cell? ⟨w.heap.size,0,none⟩=some (.int .i64 ((n:Nat):Int))/\W.cell? ⟨w.heap.size+1,0,none⟩=some (.slice (some ⟨ya,yo,none⟩) n yc)) (fun _=>True) l W:=fun l W h=>⟨.inl h,trivial⟩;have hI:(fun W:World=>W.cell? ⟨w.heap.size,0,none⟩=some (.int .i64 ((n:Nat):Int))/\W.cell? ⟨w.heap.size+1,0,none⟩=some (.slice (some ⟨ya,yo,none⟩) n yc)) Ve:=⟨SI.u.a0.cell,SI.u.cx.c⟩
  refine i6 0 4 (.slice (some ⟨ya,yo,none⟩) n yc) 40 rfl rfl (i8 ⟨(w.heap.size+1),0,none⟩ (fun W hW=>Rg.ae _ _ Tryz.underlying27 hW.2)) (hS _ _ hI)<|d7 1 4 (.pointer (some ⟨w.heap.size,0,none⟩)) 41 rfl rfl (i9 fun w=>aA _ rfl rfl (cP _ _)) (hS _ _ hI)<|i6 2 4 (.int .i64 ((n:Nat):Int)) 42 rfl rfl (i8 ⟨w.heap.size,0,none⟩ (fun W hW=>af hW.1)) (hS _ _ hI) ?_;go_frame
  have Qe:=(show _/\_ from ⟨(SI.u.a0.other (o:=0) (b':=w.heap.size+2) (.slice (some ⟨ya,yo,none⟩) n yc) (by omega)).cell,(SI.u.cx.other (o:=0) (b':=w.heap.size+2) (.slice (some ⟨ya,yo,none⟩) n yc) (by omega)).c⟩);refine Rg.Any.one (i:=3) (by kernel_rfl) (Rg.Any.dR none rfl rfl rfl (Rg.aq _ _ _ rfl _ rfl _ rfl (Rg.bA _ cR SI.u.c4.c SI.u.c4.f)) (hS _ _ Qe) ?_);go_frame;refine Rg.Any.one (i:=4) (by kernel_rfl) (Rg.Any.dR none rfl rfl rfl (Rg.aq _ _ _ rfl _ rfl _ rfl (dN _ (SI.u.c5.other _ (by omega)).c (SI.u.c5.other _ (by omega)).f)) (cT _ _ rfl) ?_);go_frame;refine Rg.Any.done (by kernel_rfl) ?_ _;refine Rg.nL ?_;clear cT;clear hS Qe;have Qd:=SI.u.stop n;have hdd:=(RF.eX.setCell DF.u ⟨w.heap.size+2,0,none⟩ (.slice (some ⟨ya,yo,none⟩) n yc)).setCell ⟨w.heap.size+3,0,none⟩ (.int .i64 ((n:Nat):Int))
  generalize (Ve.setCell ⟨w.heap.size+2,0,none⟩ (.slice (some ⟨ya,yo,none⟩) n yc)).setCell ⟨w.heap.size+3,0,none⟩ (.int .i64 ((n:Nat):Int))=aaW at *;have SS:=U Qd;have DX:=U hdd;clear Qd hdd;go_wp2;exact BC (ds:=[D]) SS.u.dP SS.u.c4 SS.u.c5 SS.u.fp (M3 TA.u) rfl rfl (by simp) (fun D' iE=>by simp at iE; subst iE; exact ⟨DX.u,HD.u⟩)
end
section
open Go.Proofs.Cm (Gr Gd ar cy St Tr ap dg lq)
open Classical in
noncomputable def bF (n:Int) (OO:List (List Int)) (RR:List (List (List Int))):Int:=if 1<=n/\n<=64 then (if fk n OO RR then 0 else 3) else 2
theorem BD {n:Int}:oA n OO RR (bF n OO RR):=by
 unfold bF
 by_cases h:1<=n/\n<=64
 ·rw [if_pos h]
  by_cases h2:fk n OO RR
  ·rw [if_pos h2]; exact .inr ⟨h,.inl ⟨h2,rfl⟩⟩
  ·rw [if_neg h2]; exact .inr ⟨h,.inr ⟨h2,rfl⟩⟩
 ·rw [if_neg h]; exact .inl ⟨h,rfl⟩
theorem zg {n:Int} {c:Int} (h:oA n OO RR c):c=bF n OO RR:=h.uniq BD
theorem eI {n:Int} (h:bF n OO RR=0):fk n OO RR:=by
 have:=BD (n:=n) (OO:=OO) (RR:=RR);rw [h] at this;exact this.zero
theorem oD {n:Int} (h:fk n OO RR):bF n OO RR=0:=(zg (oA.of h)).symm
noncomputable def gY (n:Int) (OO:List (List Int)) (RR:List (List (List Int))) (xl:List Int):Int :=
 if bF n OO RR=0 then (if Ma.bU xl=0 then (if (xl.length:Int)=n then 0 else 10) else Ma.bU xl) else bF n OO RR
theorem zh {n:Int} (h:¬ bF n OO RR=0):gY n OO RR xl=bF n OO RR:=if_neg h
theorem xd {n:Int} (h:bF n OO RR=0) (h2:¬ Ma.bU xl=0):gY n OO RR xl=Ma.bU xl:=by unfold gY; rw [if_pos h,if_neg h2]
theorem zi {n:Int} (h:bF n OO RR=0) (h2:Ma.bU xl=0) (h3:¬ (xl.length:Int)=n):gY n OO RR xl=10:=by unfold gY; rw [if_pos h,if_pos h2,if_neg h3]
theorem BG {n:Int} (h:bF n OO RR=0) (h2:Ma.bU xl=0) (h3:(xl.length:Int)=n):gY n OO RR xl=0:=by unfold gY; rw [if_pos h,if_pos h2,if_pos h3]
theorem F_ {n:Int} (h:gY n OO RR xl=0):∃ (N:Nat) (O:List (List Nat)) (R:List (List (List Nat))) (x:List Nat),n=((N:Nat):Int)/\1<=N/\N<=64/\OO=O.map Ma.ah/\RR=R.map (List.map Ma.ah)/\ar N (Gr N (·∈R.flatten)) O R/\cy N (Gr N (·∈R.flatten))/\xl=Ma.ah x/\Gd N x:=by
 by_cases h1:bF n OO RR=0
 ·by_cases h2:Ma.bU xl=0
  ·by_cases h3:(xl.length:Int)=n
   ·obtain ⟨N,O,R,rfl,a1,a2,a3,a4,a5,a6⟩:=eI h1
    obtain ⟨x,rfl,hx⟩:=Ma.lF (Ma.iT h2).2.2;rw [Ma.aB] at h3;exact ⟨N,O,R,x,rfl,a1,a2,a3,a4,a5,Gr.dO a6,rfl,hx,by omega⟩
   ·rw [zi h1 h2 h3] at h; cases h
  ·rw [xd h1 h2] at h; exact absurd h h2
 ·rw [zh h1] at h; exact absurd h h1
def l7 (l:List Int):List Nat:=l.map Int.toNat
theorem dF (l:List Nat):l7 (Ma.ah l)=l:=by
 unfold l7 Ma.ah;rw [List.map_map];exact (List.map_congr_left fun x _=>Int.toNat_natCast x).trans (List.map_id _)
theorem lR (l:List (List Nat)):(l.map Ma.ah).map l7=l:=by
 rw [List.map_map];exact (List.map_congr_left fun x _=>dF x).trans (List.map_id _)
theorem nO (l:List (List (List Nat))):(l.map (List.map Ma.ah)).map (List.map l7)=l:=by
 rw [List.map_map];exact (List.map_congr_left fun x _=>lR x).trans (List.map_id _)
def WU (n:Int) (OO:List (List Int)) (RR:List (List (List Int))) (xl:List Int):Nat × List Nat:=AB n.toNat (OO.map l7) (RR.map (List.map l7)) (l7 xl)
theorem TJ {x:List Nat}:WU ((N:Nat):Int) (O.map Ma.ah) (R.map (List.map Ma.ah)) (Ma.ah x)=AB N O R x:=by
 unfold WU;rw [lR,nO,dF,Int.toNat_natCast]
noncomputable def rm (n:Int) (OO:List (List Int)) (RR:List (List (List Int))) (xl:List Int):Bool :=
 if gY n OO RR xl=0 then decide ((((WU n OO RR xl).1:Nat):Int)=n) else false
theorem Qf {n:Int} (h:¬ gY n OO RR xl=0):rm n OO RR xl=false:=if_neg h
theorem Lf {x:List Nat} (h:gY ((N:Nat):Int) (O.map Ma.ah) (R.map (List.map Ma.ah)) (Ma.ah x)=0):rm ((N:Nat):Int) (O.map Ma.ah) (R.map (List.map Ma.ah)) (Ma.ah x)=decide ((((AB N O R x).1:Nat):Int)=((N:Nat):Int)):=by
 unfold rm; rw [if_pos h,TJ]
noncomputable def qk (n:Int) (OO:List (List Int)) (RR:List (List (List Int))):List (List Int):=if bF n OO RR=0 then RR.flatMap (List.drop 1) else []
end
section
open Go.RowKit
open Go.Proofs.Ob
open Go.Proofs.Cm (Gd)
attribute [local irreducible] Go.Calls Go.wpList
theorem DC (args:Array Value) (w:World):(callFunc 73 args).run Tryz.prog w=.ok (.enter 73 args) w:=by kernel_rfl
theorem WV (args:Array Value) (w:World):(callFunc 89 args).run Tryz.prog w=.ok (.enter 89 args) w:=by kernel_rfl
theorem WW (args:Array Value) (w:World):(callFunc 90 args).run Tryz.prog w=.ok (.enter 90 args) w:=by kernel_rfl
theorem oG {n:Int} {w:World} (h:ba w ov rv OO RR) :
  Calls Tryz.prog 73 #[.agg #[.int .i64 n,ov,rv]] w fun e w'=>e=.returned (.int .i64 (bF n OO RR))/\Below w.heap.size w w':=by
 refine (Dt h).mono ?_;rintro e w' ⟨c,rfl,h1,h2⟩;exact ⟨by rw [zg h1],h2⟩
theorem Ga {n:Int} {w:World} (h:ba w ov rv OO RR) (hx:Rg.Ints w xv xl) :
  Calls Tryz.prog 89 #[.agg #[.int .i64 n,ov,rv],xv] w fun e w'=>e=.returned (.int .i64 (gY n OO RR xl))/\Below w.heap.size w w':=by
 obtain ⟨oa,oc,rfl,-⟩:=h.1.shape;obtain ⟨ra,rc,rfl⟩:=h.2.shape;obtain ⟨xa,xc,rfl,-⟩:=hx.shape;have HC:=U h;have HX:=U hx;have K:=U (Below.refl w.heap.size w);clear h hx
 go_enter Tryz.func89,Tryz.ntmps89
 go_upto_region 0 with fail;refine b6 ?_;have aJ:=dX w (.int .i64 n) (.slice oa OO.length oc) (.slice ra RR.length rc);refine k5 (Rg.aS _ _ rfl rfl) ?_;go_frame;have hb:=(Below.refl w.heap.size w).alloc (Nat.le_refl _) (.cells #[.int .i64 n,.slice oa OO.length oc,.slice ra RR.length rc] 25);generalize w.alloc (.cells #[.int .i64 n,.slice oa OO.length oc,.slice ra RR.length rc] 25)=w1 at *;replace HC:=U (HC.u.p hb);replace HX:=U (HX.u.p hb);replace K:=U (Rg.acc K.u hb);clear hb;have A0:=U aJ.1;have A1:=U aJ.2.1;have A2:=U aJ.2.2;clear aJ;refine j6 rfl ?_;go_frame;obtain ⟨ck,dB⟩:∃ c,Hid (bF n OO RR=c):=⟨_,U rfl⟩;obtain ⟨pk,gH⟩:∃ c,Hid (Ma.bU xl=c):=⟨_,U rfl⟩;go_upto_region 1 with fail
 refine b6<|k5 (g7 ((.agg #[.int .i64 n,.slice oa OO.length oc,.slice ra RR.length rc])) ⟨w.heap.size,0,none⟩ (aD A0.u.cell A1.u.cell A2.u.cell)) ?_;go_frame
 refine f3 8 (ax 73 _ _ rfl rfl (DC _ _)) ?_;refine (oG HC.u).mono ?_;rintro e1 w2 ⟨rfl,hb⟩;rw [dB.u];refine ⟨_,rfl,?_⟩;go_frame;replace HC:=U (HC.u.p hb);replace HX:=U (HX.u.p hb);replace A0:=U (A0.u.p hb);replace A1:=U (A1.u.p hb);replace A2:=U (A2.u.p hb);replace K:=U (Rg.acc K.u hb);clear hb;refine j6 rfl ?_;go_frame
 by_cases h0:ck=0
 case neg =>
  skip
  go_upto_region 2 with fail
  refine b6<|j6 rfl<|k5 (g8 (.bool true) .neq (h:=az _ (decide_eq_true h0))) ?_;go_frame
  go_upto_region 3 with fail
  refine b6<|j6 rfl<|j6 rfl ?_;go_frame
  go_wp2;go_ret;exact ⟨by rw [zh (by rw [dB.u]; exact h0),dB.u]; rfl,K.u⟩
 case pos =>
  have HZ:=U (dB.u.trans h0);go_upto_region 2 with fail
  refine b6<|j6 rfl<|k5 (g8 (.bool false) .neq (h:=az _ (decide_eq_false (fun e=>e h0)))) ?_;go_frame
  clear h0;go_upto_region 4 with fail
  refine b6<|j7 rfl ?_;go_frame
  refine f3 13 (ax 68 _ _ rfl rfl (y7 _ _)) ?_;refine (ft _ _ w2 HX.u).mono ?_;rintro e1 w3 ⟨rfl,hb⟩;rw [gH.u];refine ⟨_,rfl,?_⟩;go_frame;replace HC:=U (HC.u.p hb);replace HX:=U (HX.u.p hb);replace A0:=U (A0.u.p hb);replace A1:=U (A1.u.p hb);replace A2:=U (A2.u.p hb);replace K:=U (Rg.acc K.u hb);clear hb;refine j6 rfl ?_;go_frame
  by_cases h1:pk=0
  case neg =>
   skip
   go_upto_region 5 with fail
   refine b6<|j6 rfl<|k5 (g8 (.bool true) .neq (h:=az _ (decide_eq_true h1))) ?_;go_frame
   go_upto_region 6 with fail
   refine b6<|j6 rfl<|j6 rfl ?_;go_frame
   go_wp2;go_ret;exact ⟨by rw [xd HZ.u (by rw [gH.u]; exact h1),gH.u]; rfl,K.u⟩
  case pos =>
   have HP:=U (gH.u.trans h1);go_upto_region 5 with fail
   refine b6<|j6 rfl<|k5 (g8 (.bool false) .neq (h:=az _ (decide_eq_false (fun e=>e h1)))) ?_;go_frame
   clear h1
   by_cases h2:(xl.length:Int)=n
   case neg =>
    skip
    go_upto_region 7 with fail
    refine b6<|j7 rfl<|k5 (g9 Tryz.underlying27)<|k5 (j0 (cP _ _))<|k5 (g7 (.int .i64 n) ⟨w.heap.size,0,none⟩ (af A0.u.cell)) ?_;go_frame
    refine k5 (g8 (.bool true) .neq (h:=az _ (decide_eq_true h2))) ?_;go_frame;go_upto_region 8 with fail
    refine b6<|j6 rfl ?_;go_frame
    go_wp2;go_ret;exact ⟨by rw [zi HZ.u HP.u h2]; rfl,K.u⟩
   case pos =>
    skip
    go_upto_region 7 with fail
    refine b6<|j7 rfl<|k5 (g9 Tryz.underlying27)<|k5 (j0 (cP _ _))<|k5 (g7 (.int .i64 n) ⟨w.heap.size,0,none⟩ (af A0.u.cell)) ?_;go_frame
    refine k5 (g8 (.bool false) .neq (h:=az _ (decide_eq_false (fun e=>e h2)))) ?_;go_frame;go_upto_region 9 with fail
    refine b6<|j6 rfl ?_;go_frame
    go_wp2;go_ret;exact ⟨by rw [BG HZ.u HP.u h2]; rfl,K.u⟩
theorem M6 {x:List Nat} {w:World} (eB:1<=N) (za:N<=64) (bR:Cm.ar N (Cm.Gr N (·∈R.flatten)) O R) (hH:Cm.cy N (Cm.Gr N (·∈R.flatten))) (gx:Gd N x) (h:ba w ov rv (O.map Ma.ah) (R.map (List.map Ma.ah))) (hx:Rg.Ints w xv (Ma.ah x)) :
  Calls Tryz.prog 90 #[.agg #[.int .i64 ((N:Nat):Int),ov,rv],xv] w (Dz N O R x w):=JA eB za hH bR rfl rfl h hx gx
theorem vO {n:Int} {w:World} (h:ba w ov rv OO RR) (hx:Rg.Ints w xv xl) :
  Calls Tryz.prog 67 #[.agg #[.int .i64 n,ov,rv],xv] w fun e w'=>e=.returned (.tuple #[.bool (rm n OO RR xl),.int .i64 (gY n OO RR xl)])/\Below w.heap.size w w':=by
 obtain ⟨oa,oc,rfl,-⟩:=h.1.shape;obtain ⟨ra,rc,rfl⟩:=h.2.shape;obtain ⟨xa,xc,rfl,-⟩:=hx.shape;have HC:=U h;have HX:=U hx;have K:=U (Below.refl w.heap.size w);clear h hx
 go_enter Tryz.func67,Tryz.ntmps67
 go_upto_region 0 with fail;refine b6 ?_;have aJ:=dX w (.int .i64 n) (.slice oa OO.length oc) (.slice ra RR.length rc);refine k5 (Rg.aS _ _ rfl rfl) ?_;go_frame;have hb:=(Below.refl w.heap.size w).alloc (Nat.le_refl _) (.cells #[.int .i64 n,.slice oa OO.length oc,.slice ra RR.length rc] 25);generalize w.alloc (.cells #[.int .i64 n,.slice oa OO.length oc,.slice ra RR.length rc] 25)=w1 at *;replace HC:=U (HC.u.p hb);replace HX:=U (HX.u.p hb);replace K:=U (Rg.acc K.u hb);clear hb;have A0:=U aJ.1;have A1:=U aJ.2.1;have A2:=U aJ.2.2;clear aJ
 refine j9 rfl<|j6 rfl ?_;go_frame
 obtain ⟨bk,mO⟩:∃ c,Hid (gY n OO RR xl=c):=⟨_,U rfl⟩;go_upto_region 1 with fail
 refine b6<|k5 (g7 ((.agg #[.int .i64 n,.slice oa OO.length oc,.slice ra RR.length rc])) ⟨w.heap.size,0,none⟩ (aD A0.u.cell A1.u.cell A2.u.cell))<|j7 rfl ?_;go_frame
 refine f3 11 (aC 89 _ _ _ rfl rfl rfl (WV _ _)) ?_;refine (Ga HC.u HX.u).mono ?_;rintro e1 w2 ⟨rfl,hb⟩;rw [mO.u];refine ⟨_,rfl,?_⟩;go_frame;replace HC:=U (HC.u.p hb);replace HX:=U (HX.u.p hb);replace A0:=U (A0.u.p hb);replace A1:=U (A1.u.p hb);replace A2:=U (A2.u.p hb);replace K:=U (Rg.acc K.u hb);clear hb;refine j6 rfl ?_;go_frame
 by_cases h0:bk=0
 case neg =>
  skip
  go_upto_region 2 with fail
  refine b6<|j6 rfl<|k5 (g8 (.bool true) .neq (h:=az _ (decide_eq_true h0))) ?_;go_frame
  go_upto_region 3 with fail
  refine b6<|j6 rfl<|j9 rfl<|j6 rfl ?_;go_frame
  go_wp2
  go_ret2
  exact ⟨by rw [Qf (by rw [mO.u]; exact h0),mO.u]; rfl,K.u⟩
 case pos =>
  have HZ:=U (mO.u.trans h0);go_upto_region 2 with fail
  refine b6<|j6 rfl<|k5 (g8 (.bool false) .neq (h:=az _ (decide_eq_false (fun e=>e h0)))) ?_;go_frame
  obtain ⟨N,O,R,x,rfl,eB,za,rfl,rfl,bR,hH,rfl,gx⟩:=F_ HZ.u;have cX:=U bR;have HH:=U hH;have GX:=U gx;clear bR hH gx h0;obtain ⟨bb,mF⟩:∃ b,Hid (decide ((((AB N O R x).1:Nat):Int)=((N:Nat):Int))=b):=⟨_,U rfl⟩;go_upto_region 4 with fail
  refine b6<|k5 (g7 ((.agg #[.int .i64 ((N:Nat):Int),.slice oa (O.map Ma.ah).length oc,.slice ra (R.map (List.map Ma.ah)).length rc])) ⟨w.heap.size,0,none⟩ (aD A0.u.cell A1.u.cell A2.u.cell))<|j7 rfl ?_;go_frame
  refine f3 18 (aC 90 _ _ _ rfl rfl rfl (WW _ _)) ?_;refine (M6 eB za cX.u HH.u GX.u HC.u HX.u).mono ?_;rintro e1 w3 ⟨v1,rfl,pB,hb⟩;refine ⟨_,rfl,?_⟩;go_frame;replace HC:=U (HC.u.p hb);replace HX:=U (HX.u.p hb);replace A0:=U (A0.u.p hb);replace A1:=U (A1.u.p hb);replace A2:=U (A2.u.p hb);replace K:=U (Rg.acc K.u hb);clear hb
  refine j5 (.tuple #[v1,.int .i64 (((AB N O R x).1:Nat):Int)]) rfl<|k5 (i5 (v1))<|k5 (i5 (.int .i64 (((AB N O R x).1:Nat):Int)))<|j5 (v1) rfl<|j6 rfl ?_;go_frame
  go_upto_region 5 with fail
  refine b6<|j6 rfl<|k5 (j0 (cP _ _))<|k5 (g7 (.int .i64 ((N:Nat):Int)) ⟨w.heap.size,0,none⟩ (af A0.u.cell))<|k5 (g8 (.bool bb) .eql (h:=fa _ mF.u)) ?_;go_frame
  refine j9 rfl<|j6 rfl ?_;go_frame
  go_wp2
  go_ret2
  exact ⟨by rw [Lf HZ.u,HZ.u,mF.u]; rfl,K.u⟩
end
end Go.Proofs.YtpedbljnhnoohaaGreat
