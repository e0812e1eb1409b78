/- Lemmas and contracts on the way to the statement; no condition of their own beyond those written. -/
import Derived.Test.YtbngdgfmlmkgiaaGreatXCptoWk
import Derived.RangeFuncWrites
import Derived.RangeFuncNested
import Derived.Sort.CutIn
import Derived.Lib.ConvBytes
import Derived.Laws.Tables
import Derived.Deep.WholeRow
import Derived.ChangeKeysEq
import Derived.Laws.Cells
import Derived.Laws.Rows
import Derived.OrdersIn
import Derived.TacticsIn
import Derived.Deep.LoopGhost
import Derived.Lib.SlicesSearch
set_option linter.unusedVariables false
set_option linter.unusedSimpArgs false
set_option maxRecDepth 100000
set_option maxHeartbeats 8000000
variable {n B N k m L j D mb tc tb tf base bytes n₀ cap:Nat} {F M F' F0:Nat→Prop} {W w' W' X w0:Go.World} {ll OO Wd:List (List Int)} {gs O Ks Fd:List (List Nat)} {l xl l1 l2:List Int} {R:List (List (List Nat))} {d:Int} {rv ov v1 v2 z fv xv u1 u2 cv u3:Go.Value} {RR:List (List (List Int))} {H:List Nat→Prop} {y a q s:List Nat} {vs xs:List Go.Value}
namespace Go.Proofs.YtbngdgfmlmkgiaaGreat
open Go.RowKit
open Go.Proofs
open Go.Proofs.Cm (Tr cE)
attribute [local irreducible] Go.Calls Go.wpList
theorem Fc (args:Array Value) (w:World):(callFunc 98 args).run Tryz.prog w=.ok (.enter 98 args) w:=by kernel_rfl
theorem Mq (args:Array Value) (w:World):(callFunc 121 args).run Tryz.prog w=.ok (.enter 121 args) w:=by kernel_rfl
theorem dw.mono {F F':Nat→Prop} {B:Nat} {W:World} {v:Value} {l:List (List Nat)} (h:dw F B W v l) (hF:∀ k,F k→F' k):dw F' B W v l:=by
 obtain ⟨us,h1,h2⟩:=h.own;exact ⟨h.size,us,h1,h2.mono hF⟩
theorem dO.rows {v:Value} {l:List (List Nat)} (h:dO F M W v l) (hl:l.length≤1000000000):Rg.Rows W v (l.map Ma.ah):=by
 obtain ⟨B,us,h0,h1,h2⟩:=h.own;have e:us.length=(l.map Ma.ah).length:=h2.1;exact Rg.Rows.cm h1 hl e fun i a b=>(h2.2 i a b).ints
def PP (n:Nat) (tr:Tr) (l:List (List Nat)) (i k m:Nat):Prop:=(∀ a b,a<i→b<i→n_ n tr l a b)∧(∀ b,b<k→n_ n tr l i b∧n_ n tr l b i)∧(0<m→n_ n tr l i k)∧(1<m→n_ n tr l k i)
theorem PP.start {tr:Tr} {l:List (List Nat)}:PP n tr l 0 0 0:=⟨fun _ _ h=>absurd h (Nat.not_lt_zero _),fun _ h=>absurd h (Nat.not_lt_zero _),fun h=>absurd h (Nat.lt_irrefl _),fun h=>absurd h (by decide)⟩
theorem PP.more {n:Nat} {tr tr':Tr} {l m':List (List Nat)} {i k m:Nat} (h:PP n tr l i k m) (hi:i<l.length) (hk:k≤i) (hm:∀ i p u,Cm.cp n tr i p=some u→Cm.cp n tr' i p=some u):PP n tr' (l++m') i k m :=
 ⟨fun a b ha hb=>(h.1 a b ha hb).more (by omega) (by omega) hm,fun b hb=>⟨(h.2.1 b hb).1.more hi (by omega) hm,(h.2.1 b hb).2.more (by omega) hi hm⟩,fun e=>(h.2.2.1 e).more hi (by omega) hm,fun e=>(h.2.2.2 e).more (by omega) hi hm⟩
theorem PP.Mr {tr:Tr} {l:List (List Nat)} {i:Nat} (h:PP n tr l i k 0) (hp:n_ n tr l i k):PP n tr l i k 1:=⟨h.1,h.2.1,fun _=>hp,fun e=>absurd e (by decide)⟩
theorem PP.Ms {tr:Tr} {l:List (List Nat)} {i:Nat} (h:PP n tr l i k 1) (hp:n_ n tr l k i):PP n tr l i k 2:=⟨h.1,h.2.1,fun _=>h.2.2.1 (by decide),fun _=>hp⟩
theorem PP.next {tr:Tr} {l:List (List Nat)} {i:Nat} (h:PP n tr l i k 2):PP n tr l i (k+1) 0 :=
 ⟨h.1,fun b hb=>by
  by_cases e:b=k
  ·subst e; exact ⟨h.2.2.1 (by decide),h.2.2.2 (by decide)⟩
  ·exact h.2.1 b (by omega),fun e=>absurd e (by decide),fun e=>absurd e (by decide)⟩
theorem PP.row {tr:Tr} {l:List (List Nat)} {i:Nat} (h:PP n tr l i (i+1) 0):PP n tr l (i+1) 0 0 :=
 ⟨fun a b ha hb=>by
  by_cases e:a=i
  ·subst e; exact (h.2.1 b hb).1
  ·by_cases e2:b=i
   ·subst e2; exact (h.2.1 a ha).2
   ·exact h.1 a b (by omega) (by omega),fun _ e=>absurd e (by omega),fun e=>absurd e (by decide),fun e=>absurd e (by decide)⟩
theorem eU {l:List (List Nat)} {i:Nat} (h:i<l.length):l.getD i []=l[i]:=by rw [List.getD_eq_getElem?_getD,List.getElem?_eq_getElem h]; rfl
theorem r8 (bn:n≤64) (tr:Tr):(cU n tr).length≤4096:=by
 have h1:=mQ n tr n 0;rw [pL] at h1;have h2:n*n≤64*64:=Nat.mul_le_mul bn bn;omega
theorem LE.le (bn:n≤64) {gs:List Nat→Prop} {tr:Tr} {l:List (List Nat)} (h:LE n gs tr l):l.length≤4096:=by
 have h1:=h.len;have h2:n*n≤64*64:=Nat.mul_le_mul bn bn;omega
def Ip (F0:Nat→Prop) (w:World) (tb tf n:Nat) (gs:List Nat→Prop) (Rb:Nat→Nat) (e:Ending) (w':World):Prop:=∃ F' V' tr',e=.returned (.tuple #[])∧KG F0 w F' w'∧bW F' tb tf n w' tr' Rb V'∧cE n gs tr'∧Cm.kn n (Cm.Gr n gs) (Cm.cp n tr')
theorem CD (aZ:1≤n) (bn:n≤64) {w:World} {vZ:Tr} {Rb:Nat→Nat} {V:Nat→Nat→Value} (hT:bW F0 tb tf n w vZ Rb V) {gs:List Nat→Prop} (hg:∀ s,gs s→Cm.Gd n s) (tL:cE n gs vZ) (kz:∀ s,gs s→Cm.Sd n (Cm.cp n vZ) n s) :
  Calls Tryz.prog 99 #[.slice (some ⟨tb,tf,none⟩) n tc] w (Ip F0 w tb tf n gs Rb):=by
 have HT:=ι hT;have HG:=ι hg;have jr:=ι (LE.start tL kz);have Ze:=ι (show ∀ k,yE n Rb k→k<w.heap.size from fun k hk=>by obtain ⟨i,hi,rfl⟩:=hk; exact hT.lt hi);have K:=ι (KG.refl hT.gB);clear hT hg tL kz
 go_enter Tryz.func99,Tryz.ntmps99
 go_upto_region 0 with fail
 refine b6<|i5 rfl ?_;go_frame
 refine d4 9 (aq 120 _ _ rfl rfl (oY _ _)) ?_;refine (eS aZ bn HT.out (fun i p u e=>g_ jr.out.ok e)).mono ?_;rintro e1 w1 ⟨av,rfl,eQ,hb⟩;replace K:=ι (K.out.v8 (KF.aK hb));have RW:=ι (eQ.g (M:=yE n Rb) HT.out.gB Ze.out);clear eQ;refine ⟨_,rfl,?_⟩;go_frame;replace HT:=ι (HT.out.below hb);clear hb;refine i3 (av) rfl ?_;go_frame;have HP:=ι (PP.start (n:=n) (tr:=vZ) (l:=cU n vZ));go_wp2
 go_loopw [2,3] (fun lv iv wr=>∃ (i:Nat) (l:List (List Nat)) (tr:Tr) (F1:Nat→Prop) (V:Nat→Nat→Value),iv=.int .i64 i∧i≤l.length∧Hid (dO F1 (yE n Rb) wr lv l)∧Hid (bW F1 tb tf n wr tr Rb V)∧Hid (KG F0 w F1 wr)∧Hid (LE n gs tr l)∧Hid (PP n tr l i 0 0)) (fun _ iv _=>4096 - (intOf iv).toNat)
 case atStart=>exact ⟨0,_,_,_,_,rfl,Nat.zero_le _,RW,HT,K,jr,HP⟩
 case round =>
  clear RW HT K jr HP;obtain ⟨i,l,tr,F,V,rfl,hi,RW,HT,K,jr,HP⟩:=hrel;obtain ⟨ra,rc,cK⟩:=RW.out.shape;subst cK;have l9:=jr.out.le bn
  by_cases aB:i<l.length
  ·have uS:(i:Int)<(l.length:Int):=by omega
   have hi4:i<4096:=by omega
   clear l9 hi;go_wp2
   go_loopw [2,4] (fun lv kv wr=>∃ (k:Nat) (l:List (List Nat)) (tr:Tr) (F1:Nat→Prop) (V:Nat→Nat→Value),kv=.int .i64 k∧k≤i+1∧i<l.length∧Hid (dO F1 (yE n Rb) wr lv l)∧Hid (bW F1 tb tf n wr tr Rb V)∧Hid (KG F0 w F1 wr)∧Hid (LE n gs tr l)∧Hid (PP n tr l i k 0)) (fun _ kv _=>i+1 - (intOf kv).toNat)
   case atStart=>exact ⟨0,_,_,_,_,rfl,Nat.zero_le _,aB,RW,HT,K,jr,HP⟩
   case round =>
    clear RW HT K jr HP aB uS;obtain ⟨k,l,tr,F,V,rfl,hk,aB,RW,HT,K,jr,HP⟩:=hrel;obtain ⟨ra,rc,cK⟩:=RW.out.shape;subst cK
    by_cases my:k≤i
    ·have iH:(k:Int)≤(i:Int):=by omega
     go_wp2
     go_loopw [2,5] (fun lv mv wr=>∃ (m:Nat) (l:List (List Nat)) (tr:Tr) (F1:Nat→Prop) (V:Nat→Nat→Value),mv=.int .i64 m∧m≤2∧i<l.length∧Hid (dO F1 (yE n Rb) wr lv l)∧Hid (bW F1 tb tf n wr tr Rb V)∧Hid (KG F0 w F1 wr)∧Hid (LE n gs tr l)∧Hid (PP n tr l i k m)) (fun _ mv _=>2 - (intOf mv).toNat)
     case atStart=>exact ⟨0,_,_,_,_,rfl,by decide,aB,RW,HT,K,jr,HP⟩
     case round =>
      clear RW HT K jr HP aB;obtain ⟨m,l,tr,F,V,rfl,hm,aB,RW,HT,K,jr,HP⟩:=hrel;have l9:=jr.out.le bn;have bw:=ι aB;have qx:=ι (show k<l.length by omega)
      by_cases rD:m<2
      ·have wm:(m:Int)<2:=by omega
       obtain ⟨g,c,ua,e1,e2,e3⟩:=RW.out.at bw.out;subst e1;obtain ⟨g',c',ub,VQ,Sf,VR⟩:=RW.out.at qx.out;simp only [Value.slice.injEq,Option.some.injEq,Addr.mk.injEq,and_true,true_and] at VQ;obtain ⟨Zf,Zg⟩:=VQ;subst Zf Zg;have CA:=ι e2;have UA:=ι e3;have CB:=ι Sf;have UB:=ι VR;have GA:=ι (jr.out.gr (List.getElem_mem bw.out));have GB:=ι (jr.out.gr (List.getElem_mem qx.out));have uY:=ι l9;clear e2 e3 Sf VR l9 aB
       by_cases VS:m=0
       ·subst VS
        go_upto_region 10 with fail;have aw:Below wr.heap.size wr wr.drew:=(Below.refl _ _).drew;replace RW:=ι (RW.out.up aw);replace HT:=ι (HT.out.up aw);replace CA:=ι (CA.out.up aw);replace CB:=ι (CB.out.up aw);replace UA:=ι (UA.out.up aw);replace UB:=ι (UB.out.up aw);replace K:=ι (K.out.up aw);generalize cx F wr wr.drew=F1 at *;clear aw;refine Rg.Any.begin (S:=Rg.aH 9 (fun _=>True) (fun W=>Below wr.drew.heap.size wr.drew W)) mix ?_;generalize wr.drew=w1 at *;have hS:∀ (l:Array Bool) W,Below w1.heap.size w1 W→Rg.aH 9 (fun _=>True) (fun W=>Below w1.heap.size w1 W) l W:=fun l W h=>⟨.inr trivial,h⟩;have hI:Below w1.heap.size w1 w1:=Below.refl _ _
        refine c8 0 9 (.slice (some ⟨g,0,none⟩) l.length c) 25 (hS _ _ hI)<|c8 1 9 (.int .i64 ((i:Nat):Int)) 26 (hS _ _ hI)<|c7 2 9 (.pointer (some ⟨g,0+i,none⟩)) 27 rfl rfl (Rg.ai aE _ _ rfl rfl g (0) (l.length) c (i) rfl rfl bw.out) (hS _ _ hI)<|c7 3 9 (ua) 28 rfl rfl (g6 ⟨g,0+i,none⟩ (fun W hW=>Rg.ae _ _ Tryz.underlying26 ((Below.cell (p:=⟨g,0+i,none⟩) hW CA.out.lt).trans CA.out.cell))) (hS _ _ hI)<|c8 4 9 (.slice (some ⟨g,0,none⟩) l.length c) 29 (hS _ _ hI) ?_;go_frame
        refine c8 5 9 (.int .i64 ((k:Nat):Int)) 30 (hS _ _ hI)<|c7 6 9 (.pointer (some ⟨g,0+k,none⟩)) 31 rfl rfl (Rg.ai aE _ _ rfl rfl g (0) (l.length) c (k) rfl rfl qx.out) (hS _ _ hI)<|c7 7 9 (ub) 32 rfl rfl (g6 ⟨g,0+k,none⟩ (fun W hW=>Rg.ae _ _ Tryz.underlying26 ((Below.cell (p:=⟨g,0+k,none⟩) hW CB.out.lt).trans CB.out.cell))) (hS _ _ hI) ?_;go_frame
        refine Rg.Any.one (i:=8) (by kernel_rfl) (Rg.Any.ask (some 33) rfl rfl rfl _ _ (aD 26 _ _ _ rfl rfl rfl (k8 _ _)) ?_);refine (pK UA.out UB.out GA.out.2 GB.out.2 bn).mono ?_;rintro e1 w2 ⟨mv,rfl,dL,hb⟩;have dg:=Rg.acc hI hb;clear hI;replace RW:=ι (RW.out.up hb);replace HT:=ι (HT.out.up hb);replace CA:=ι (CA.out.up hb);replace CB:=ι (CB.out.up hb);replace UA:=ι (UA.out.up hb);replace UB:=ι (UB.out.up hb);replace K:=ι (K.out.up hb);have XV:=ι dL;generalize cx F1 w1 w2=F2 at *;clear hb;refine ⟨_,rfl,(hS _ _ dg),?_⟩;go_frame;refine g5 9 6 rfl rfl (b5 (mv) _ rfl rfl) (hS _ _ dg) ?_;go_frame;refine Rg.Any.done (by kernel_rfl) ?_ _;clear hS dg;clear dL;go_upto_region 11 with fail
        refine b6<|i4 rfl<|i8 (d9 (.bool false) .eql (h:=cJ _ d6)) ?_;go_frame
        obtain ⟨x,hx⟩:∃ x,Hid (Ma.aj (l[i]'bw.out) (l[k]'qx.out)=x):=⟨_,ι rfl⟩;rw [hx.out] at XV
        have CM:Cm.Gr n gs x:=by rw [← hx.out]; exact .mul _ _ GA.out.1 GB.out.1
        have GX:=ι (show Cm.Gd n x by rw [← hx.out]; exact Cm.a_ GA.out.2 GB.out.2);have kr:=oX HG.out jr.out.ok CM;go_upto_region 13 with fail
        refine b6<|i5 rfl ?_;go_frame
        refine d4 46 (aq 120 _ _ rfl rfl (oY _ _)) ?_;refine (eS aZ bn HT.out (fun i p u e=>g_ jr.out.ok e)).mono ?_;rintro e1 w3 ⟨av,rfl,eQ,hb⟩;obtain ⟨aa,ac,rfl⟩:=eQ.shape;clear eQ;refine ⟨_,rfl,?_⟩;go_frame;replace RW:=ι (RW.out.up hb);replace HT:=ι (HT.out.up hb);replace CA:=ι (CA.out.up hb);replace CB:=ι (CB.out.up hb);replace UA:=ι (UA.out.up hb);replace UB:=ι (UB.out.up hb);replace XV:=ι (XV.out.up hb);replace K:=ι (K.out.up hb);generalize cx F2 w2 w3=F3 at *;clear hb
        refine i8 (e8 Tryz.underlying22)<|i4 rfl ?_;go_frame
        go_upto_region 14 with fail
        refine b6<|i5 rfl<|i3 (mv) rfl ?_;go_frame
        refine d4 50 (aD 98 _ _ _ rfl rfl rfl (Fc _ _)) ?_;refine (oU aZ bn HT.out jr.out.ok.rp XV.out GX.out).mono ?_;rintro e1 w4 ⟨F9,V9,rfl,my,lQ⟩;have dZ:=my.kg;have CN:=RW.out.ki my;refine ⟨_,rfl,?_⟩;go_frame;clear HT;clear CA;clear CB;clear UA;clear UB;replace RW:=ι CN;replace XV:=ι (XV.out.kg dZ);replace K:=ι (K.out.trans dZ);have HT:=ι lQ;clear dZ CN;clear my lQ;generalize jy n tr (Cm.cS n (Cm.cp n tr) n x)=oZ at *;have wT:=ι kr.1;have Mt:=ι kr.2.1;have Mu:=ι kr.2.2.1;have Sg:=ι kr.2.2.2;clear kr CM;have Zh:=ι (r8 bn tr);have yF:=ι (r8 bn oZ)
        by_cases nY:(cU n tr).length<(cU n oZ).length
        ·have Mv:((cU n tr).length:Int)<((cU n oZ).length:Int):=by omega
         go_upto_region 15 with fail
         refine b6<|i5 rfl ?_;go_frame
         refine d4 52 (aq 120 _ _ rfl rfl (oY _ _)) ?_;refine (eS aZ bn HT.out (fun i p u e=>g_ wT.out e)).mono ?_;rintro e1 w5 ⟨av,rfl,eQ,hb⟩;obtain ⟨Jv,Jw,rfl⟩:=eQ.shape;clear eQ;refine ⟨_,rfl,?_⟩;go_frame;replace RW:=ι (RW.out.up hb);replace XV:=ι (XV.out.up hb);replace HT:=ι (HT.out.up hb);replace K:=ι (K.out.up hb);generalize cx F9 w4 w5=F4 at *;clear hb
         refine i8 (e8 Tryz.underlying22)<|i4 rfl<|i8 (d9 (.bool true) .gtr (h:=cw _ d5)) ?_;go_frame
         go_upto_region 16 with fail
         refine b6<|i5 rfl<|i5 rfl<|i5 rfl ?_;go_frame
         refine d4 59 (aD 121 _ _ _ rfl rfl rfl (Mq _ _)) ?_;refine (wR aZ bn HT.out (fun i p u e=>g_ wT.out e) (RW.out.rows (by have:=uY.out; omega))).mono ?_;rintro e1 w6 ⟨fv,B9,rfl,Fe,Mw,hb⟩;refine ⟨_,rfl,?_⟩;go_frame;replace RW:=ι (RW.out.up hb);replace XV:=ι (XV.out.up hb);replace HT:=ι (HT.out.up hb);replace K:=ι (K.out.up hb);have RF:=ι (Mw.mono (fun _ h=>Or.inl h):dw (cx F4 w5 w6) _ _ _ _);generalize cx F4 w5 w6=F5 at *;clear hb;clear Mw;have CV:(jh n oZ l).length≤4096:=Nat.le_trans (List.length_filter_le _ _) yF.out;obtain ⟨a9,c9,X9,r1,r2,r3⟩:=RW.out.app RF.out HT.out.gB (fun k hk=>by obtain ⟨i,hi,rfl⟩:=hk; exact HT.out.lt hi) (by have:=uY.out; omega) 22
         refine i8 (Rg.aP _ _ _ rfl rfl rfl r1)<|i5 rfl ?_;go_frame
         have AB:=ι (HT.out.kp r3 (fun k hF e=>(RW.out.off k e).1 hF) (fun i hi e=>(RW.out.off _ e).2 ⟨i,hi,rfl⟩));have K2:=ι (K.out.v8 (Rg.Kp.fN r3 (fun k e hF=>(RW.out.off k e).1 hF)));have wU:=ι r2;have Sh:=ι (jr.out.more wT.out Mt.out)
         have Ff:=ι ((HP.out.more (m':=jh n oZ l) bw.out my Mt.out).Mr (by
          unfold n_;rw [kK bw.out,kK qx.out,eU bw.out,eU qx.out,hx.out]
          exact Mu.out))
         have Mx:=ι (show i<(l++jh n oZ l).length by rw [List.length_append]; have:=bw.out; omega);clear r1 r2 r3;go_wp2
         go_roundw
         case rel=>exact ⟨1,_,_,_,_,by go_num,by decide,Mx.out,wU,AB,K2,Sh,Ff⟩
         case measure=>simp [intOf]
        ·have Mv:¬ ((cU n tr).length:Int)<((cU n oZ).length:Int):=by omega
         have My:=Sg.out (by omega);go_upto_region 15 with fail
         refine b6<|i5 rfl ?_;go_frame
         refine d4 52 (aq 120 _ _ rfl rfl (oY _ _)) ?_;refine (eS aZ bn HT.out (fun i p u e=>g_ wT.out e)).mono ?_;rintro e1 w5 ⟨av,rfl,eQ,hb⟩;obtain ⟨Jv,Jw,rfl⟩:=eQ.shape;clear eQ;refine ⟨_,rfl,?_⟩;go_frame;replace RW:=ι (RW.out.up hb);replace XV:=ι (XV.out.up hb);replace HT:=ι (HT.out.up hb);replace K:=ι (K.out.up hb);generalize cx F9 w4 w5=F4 at *;clear hb
         refine i8 (e8 Tryz.underlying22)<|i4 rfl<|i8 (d9 (.bool false) .gtr (h:=cw _ d6)) ?_;go_frame
         have AB:=ι (show bW F4 tb tf n w5 tr Rb _ by have:=HT.out; rw [My] at this; exact this)
         have Ff:=ι (HP.out.Mr (by
          unfold n_;rw [eU bw.out,eU qx.out,hx.out,← My]
          exact Mu.out))
         go_wp2
         go_roundw
         case rel=>exact ⟨1,_,_,_,_,by go_num,by decide,bw.out,RW,AB,K,jr,Ff⟩
         case measure=>simp [intOf]
       ·obtain rfl:m=1:=by omega
        clear VS;go_upto_region 10 with fail;have aw:Below wr.heap.size wr wr.drew:=(Below.refl _ _).drew;replace RW:=ι (RW.out.up aw);replace HT:=ι (HT.out.up aw);replace CA:=ι (CA.out.up aw);replace CB:=ι (CB.out.up aw);replace UA:=ι (UA.out.up aw);replace UB:=ι (UB.out.up aw);replace K:=ι (K.out.up aw);generalize cx F wr wr.drew=F1 at *;clear aw;refine Rg.Any.begin (S:=Rg.aH 9 (fun _=>True) (fun W=>Below wr.drew.heap.size wr.drew W)) mix ?_;generalize wr.drew=w1 at *;have hS:∀ (l:Array Bool) W,Below w1.heap.size w1 W→Rg.aH 9 (fun _=>True) (fun W=>Below w1.heap.size w1 W) l W:=fun l W h=>⟨.inr trivial,h⟩;have hI:Below w1.heap.size w1 w1:=Below.refl _ _
        refine c8 0 9 (.slice (some ⟨g,0,none⟩) l.length c) 25 (hS _ _ hI)<|c8 1 9 (.int .i64 ((i:Nat):Int)) 26 (hS _ _ hI)<|c7 2 9 (.pointer (some ⟨g,0+i,none⟩)) 27 rfl rfl (Rg.ai aE _ _ rfl rfl g (0) (l.length) c (i) rfl rfl bw.out) (hS _ _ hI)<|c7 3 9 (ua) 28 rfl rfl (g6 ⟨g,0+i,none⟩ (fun W hW=>Rg.ae _ _ Tryz.underlying26 ((Below.cell (p:=⟨g,0+i,none⟩) hW CA.out.lt).trans CA.out.cell))) (hS _ _ hI)<|c8 4 9 (.slice (some ⟨g,0,none⟩) l.length c) 29 (hS _ _ hI) ?_;go_frame
        refine c8 5 9 (.int .i64 ((k:Nat):Int)) 30 (hS _ _ hI)<|c7 6 9 (.pointer (some ⟨g,0+k,none⟩)) 31 rfl rfl (Rg.ai aE _ _ rfl rfl g (0) (l.length) c (k) rfl rfl qx.out) (hS _ _ hI)<|c7 7 9 (ub) 32 rfl rfl (g6 ⟨g,0+k,none⟩ (fun W hW=>Rg.ae _ _ Tryz.underlying26 ((Below.cell (p:=⟨g,0+k,none⟩) hW CB.out.lt).trans CB.out.cell))) (hS _ _ hI) ?_;go_frame
        refine Rg.Any.one (i:=8) (by kernel_rfl) (Rg.Any.ask (some 33) rfl rfl rfl _ _ (aD 26 _ _ _ rfl rfl rfl (k8 _ _)) ?_);refine (pK UA.out UB.out GA.out.2 GB.out.2 bn).mono ?_;rintro e1 w2 ⟨mv,rfl,dL,hb⟩;have qq:=Rg.acc hI hb;clear hI;replace RW:=ι (RW.out.up hb);replace HT:=ι (HT.out.up hb);replace CA:=ι (CA.out.up hb);replace CB:=ι (CB.out.up hb);replace UA:=ι (UA.out.up hb);replace UB:=ι (UB.out.up hb);replace K:=ι (K.out.up hb);have XV:=ι dL;generalize cx F1 w1 w2=F2 at *;clear hb;refine ⟨_,rfl,(hS _ _ qq),?_⟩;go_frame;refine g5 9 6 rfl rfl (b5 (mv) _ rfl rfl) (hS _ _ qq) ?_;go_frame;refine Rg.Any.done (by kernel_rfl) ?_ _;clear hS qq;clear dL;go_upto_region 11 with fail
        refine b6<|i4 rfl<|i8 (d9 (.bool true) .eql (h:=cJ _ d5)) ?_;go_frame
        clear XV;go_upto_region 12 with fail;have aw:Below w2.heap.size w2 w2.drew:=(Below.refl _ _).drew;replace RW:=ι (RW.out.up aw);replace HT:=ι (HT.out.up aw);replace CA:=ι (CA.out.up aw);replace CB:=ι (CB.out.up aw);replace UA:=ι (UA.out.up aw);replace UB:=ι (UB.out.up aw);replace K:=ι (K.out.up aw);generalize cx F2 w2 w2.drew=F3 at *;clear aw;refine Rg.Any.begin (S:=Rg.aH 9 (fun _=>True) (fun W=>Below w2.drew.heap.size w2.drew W)) mix ?_;generalize w2.drew=w3 at *;have hS:∀ (l:Array Bool) W,Below w3.heap.size w3 W→Rg.aH 9 (fun _=>True) (fun W=>Below w3.heap.size w3 W) l W:=fun l W h=>⟨.inr trivial,h⟩;have hI:Below w3.heap.size w3 w3:=Below.refl _ _
        refine c8 0 9 (.slice (some ⟨g,0,none⟩) l.length c) 36 (hS _ _ hI)<|c8 1 9 (.int .i64 ((k:Nat):Int)) 37 (hS _ _ hI)<|c7 2 9 (.pointer (some ⟨g,0+k,none⟩)) 38 rfl rfl (Rg.ai aE _ _ rfl rfl g (0) (l.length) c (k) rfl rfl qx.out) (hS _ _ hI)<|c7 3 9 (ub) 39 rfl rfl (g6 ⟨g,0+k,none⟩ (fun W hW=>Rg.ae _ _ Tryz.underlying26 ((Below.cell (p:=⟨g,0+k,none⟩) hW CB.out.lt).trans CB.out.cell))) (hS _ _ hI)<|c8 4 9 (.slice (some ⟨g,0,none⟩) l.length c) 40 (hS _ _ hI) ?_;go_frame
        refine c8 5 9 (.int .i64 ((i:Nat):Int)) 41 (hS _ _ hI)<|c7 6 9 (.pointer (some ⟨g,0+i,none⟩)) 42 rfl rfl (Rg.ai aE _ _ rfl rfl g (0) (l.length) c (i) rfl rfl bw.out) (hS _ _ hI)<|c7 7 9 (ua) 43 rfl rfl (g6 ⟨g,0+i,none⟩ (fun W hW=>Rg.ae _ _ Tryz.underlying26 ((Below.cell (p:=⟨g,0+i,none⟩) hW CA.out.lt).trans CA.out.cell))) (hS _ _ hI) ?_;go_frame
        refine Rg.Any.one (i:=8) (by kernel_rfl) (Rg.Any.ask (some 44) rfl rfl rfl _ _ (aD 26 _ _ _ rfl rfl rfl (k8 _ _)) ?_);refine (pK UB.out UA.out GB.out.2 GA.out.2 bn).mono ?_;rintro e1 w4 ⟨VT,rfl,dL,hb⟩;have Fg:=Rg.acc hI hb;clear hI;replace RW:=ι (RW.out.up hb);replace HT:=ι (HT.out.up hb);replace CA:=ι (CA.out.up hb);replace CB:=ι (CB.out.up hb);replace UA:=ι (UA.out.up hb);replace UB:=ι (UB.out.up hb);replace K:=ι (K.out.up hb);have XV:=ι dL;generalize cx F3 w3 w4=F4 at *;clear hb;refine ⟨_,rfl,(hS _ _ Fg),?_⟩;go_frame;refine g5 9 6 rfl rfl (b5 (VT) _ rfl rfl) (hS _ _ Fg) ?_;go_frame;refine Rg.Any.done (by kernel_rfl) ?_ _;clear hS Fg;clear dL;obtain ⟨x,hx⟩:∃ x,Hid (Ma.aj (l[k]'qx.out) (l[i]'bw.out)=x):=⟨_,ι rfl⟩;rw [hx.out] at XV
        have CM:Cm.Gr n gs x:=by rw [← hx.out]; exact .mul _ _ GB.out.1 GA.out.1
        have GX:=ι (show Cm.Gd n x by rw [← hx.out]; exact Cm.a_ GB.out.2 GA.out.2);have kr:=oX HG.out jr.out.ok CM;go_upto_region 13 with fail
        refine b6<|i5 rfl ?_;go_frame
        refine d4 46 (aq 120 _ _ rfl rfl (oY _ _)) ?_;refine (eS aZ bn HT.out (fun i p u e=>g_ jr.out.ok e)).mono ?_;rintro e1 w5 ⟨av,rfl,eQ,hb⟩;obtain ⟨aa,ac,rfl⟩:=eQ.shape;clear eQ;refine ⟨_,rfl,?_⟩;go_frame;replace RW:=ι (RW.out.up hb);replace HT:=ι (HT.out.up hb);replace CA:=ι (CA.out.up hb);replace CB:=ι (CB.out.up hb);replace UA:=ι (UA.out.up hb);replace UB:=ι (UB.out.up hb);replace XV:=ι (XV.out.up hb);replace K:=ι (K.out.up hb);generalize cx F4 w4 w5=F5 at *;clear hb
        refine i8 (e8 Tryz.underlying22)<|i4 rfl ?_;go_frame
        go_upto_region 14 with fail
        refine b6<|i5 rfl<|i3 (VT) rfl ?_;go_frame
        refine d4 50 (aD 98 _ _ _ rfl rfl rfl (Fc _ _)) ?_;refine (oU aZ bn HT.out jr.out.ok.rp XV.out GX.out).mono ?_;rintro e1 w6 ⟨F9,V9,rfl,my,lQ⟩;have dZ:=my.kg;have CN:=RW.out.ki my;refine ⟨_,rfl,?_⟩;go_frame;clear HT;clear CA;clear CB;clear UA;clear UB;replace RW:=ι CN;replace XV:=ι (XV.out.kg dZ);replace K:=ι (K.out.trans dZ);have HT:=ι lQ;clear dZ CN;clear my lQ;generalize jy n tr (Cm.cS n (Cm.cp n tr) n x)=oZ at *;have wT:=ι kr.1;have Mt:=ι kr.2.1;have Mu:=ι kr.2.2.1;have Sg:=ι kr.2.2.2;clear kr CM;have Zh:=ι (r8 bn tr);have yF:=ι (r8 bn oZ)
        by_cases nY:(cU n tr).length<(cU n oZ).length
        ·have Mv:((cU n tr).length:Int)<((cU n oZ).length:Int):=by omega
         go_upto_region 15 with fail
         refine b6<|i5 rfl ?_;go_frame
         refine d4 52 (aq 120 _ _ rfl rfl (oY _ _)) ?_;refine (eS aZ bn HT.out (fun i p u e=>g_ wT.out e)).mono ?_;rintro e1 w7 ⟨av,rfl,eQ,hb⟩;obtain ⟨Jv,Jw,rfl⟩:=eQ.shape;clear eQ;refine ⟨_,rfl,?_⟩;go_frame;replace RW:=ι (RW.out.up hb);replace XV:=ι (XV.out.up hb);replace HT:=ι (HT.out.up hb);replace K:=ι (K.out.up hb);generalize cx F9 w6 w7=F6 at *;clear hb
         refine i8 (e8 Tryz.underlying22)<|i4 rfl<|i8 (d9 (.bool true) .gtr (h:=cw _ d5)) ?_;go_frame
         go_upto_region 16 with fail
         refine b6<|i5 rfl<|i5 rfl<|i5 rfl ?_;go_frame
         refine d4 59 (aD 121 _ _ _ rfl rfl rfl (Mq _ _)) ?_;refine (wR aZ bn HT.out (fun i p u e=>g_ wT.out e) (RW.out.rows (by have:=uY.out; omega))).mono ?_;rintro e1 w8 ⟨fv,B9,rfl,Fe,Mw,hb⟩;refine ⟨_,rfl,?_⟩;go_frame;replace RW:=ι (RW.out.up hb);replace XV:=ι (XV.out.up hb);replace HT:=ι (HT.out.up hb);replace K:=ι (K.out.up hb);have RF:=ι (Mw.mono (fun _ h=>Or.inl h):dw (cx F6 w7 w8) _ _ _ _);generalize cx F6 w7 w8=F7 at *;clear hb;clear Mw;have CV:(jh n oZ l).length≤4096:=Nat.le_trans (List.length_filter_le _ _) yF.out;obtain ⟨a9,c9,X9,r1,r2,r3⟩:=RW.out.app RF.out HT.out.gB (fun k hk=>by obtain ⟨i,hi,rfl⟩:=hk; exact HT.out.lt hi) (by have:=uY.out; omega) 22
         refine i8 (Rg.aP _ _ _ rfl rfl rfl r1)<|i5 rfl ?_;go_frame
         have AB:=ι (HT.out.kp r3 (fun k hF e=>(RW.out.off k e).1 hF) (fun i hi e=>(RW.out.off _ e).2 ⟨i,hi,rfl⟩));have K2:=ι (K.out.v8 (Rg.Kp.fN r3 (fun k e hF=>(RW.out.off k e).1 hF)));have wU:=ι r2;have Sh:=ι (jr.out.more wT.out Mt.out)
         have Ff:=ι ((HP.out.more (m':=jh n oZ l) bw.out my Mt.out).Ms (by
          unfold n_;rw [kK qx.out,kK bw.out,eU qx.out,eU bw.out,hx.out]
          exact Mu.out))
         have Mx:=ι (show i<(l++jh n oZ l).length by rw [List.length_append]; have:=bw.out; omega);clear r1 r2 r3;go_wp2
         go_roundw
         case rel=>exact ⟨2,_,_,_,_,by go_num,by decide,Mx.out,wU,AB,K2,Sh,Ff⟩
         case measure=>simp [intOf]
        ·have Mv:¬ ((cU n tr).length:Int)<((cU n oZ).length:Int):=by omega
         have My:=Sg.out (by omega);go_upto_region 15 with fail
         refine b6<|i5 rfl ?_;go_frame
         refine d4 52 (aq 120 _ _ rfl rfl (oY _ _)) ?_;refine (eS aZ bn HT.out (fun i p u e=>g_ wT.out e)).mono ?_;rintro e1 w7 ⟨av,rfl,eQ,hb⟩;obtain ⟨Jv,Jw,rfl⟩:=eQ.shape;clear eQ;refine ⟨_,rfl,?_⟩;go_frame;replace RW:=ι (RW.out.up hb);replace XV:=ι (XV.out.up hb);replace HT:=ι (HT.out.up hb);replace K:=ι (K.out.up hb);generalize cx F9 w6 w7=F6 at *;clear hb
         refine i8 (e8 Tryz.underlying22)<|i4 rfl<|i8 (d9 (.bool false) .gtr (h:=cw _ d6)) ?_;go_frame
         have AB:=ι (show bW F6 tb tf n w7 tr Rb _ by have:=HT.out; rw [My] at this; exact this)
         have Ff:=ι (HP.out.Ms (by
          unfold n_;rw [eU qx.out,eU bw.out,hx.out,← My]
          exact Mu.out))
         go_wp2
         go_roundw
         case rel=>exact ⟨2,_,_,_,_,by go_num,by decide,bw.out,RW,AB,K,jr,Ff⟩
         case measure=>simp [intOf]
      ·obtain rfl:m=2:=by omega
       have wm:¬ ((2:Nat):Int)<2:=by omega
       have E4:=ι HP.out.next;clear l9 hm rD;go_wp2
       go_roundw
       case rel=>exact ⟨k+1,_,_,_,_,by go_num,by omega,bw.out,RW,HT,K,jr,E4⟩
       case measure=>simp [intOf]; omega
    ·obtain rfl:k=i+1:=by omega
     have iH:¬ ((i+1:Nat):Int)≤(i:Int):=by omega
     have E4:=ι HP.out.row;go_wp2
     go_roundw
     case rel=>exact ⟨i+1,_,_,_,_,by go_num,aB,RW,HT,K,jr,E4⟩
     case measure=>simp [intOf]; omega
  ·obtain rfl:i=l.length:=by omega
   have uS:¬ (l.length:Int)<(l.length:Int):=by omega
   have n5:=ι (jr.out.done HG.out HP.out.1);go_wp2;exact bodyPost_ret (results_none rfl _ _ _) rfl (show Ip _ _ _ _ _ _ _ _ _ from ⟨_,_,_,rfl,K.out,HT.out,jr.out.ok,n5.out⟩)

theorem iK.shape {v:Value} (h:iK B W v l):∃ a c,v=.slice a l.length c:=Rg.bY h.own
theorem iK.nil (B:Nat) (W:World):iK B W (.slice none 0 0) []:=⟨World.ownsRow_nil _ _ _ _⟩
theorem iK.push {v:Value} (h:iK B W v l) (hB:B≤W.heap.size) (x:Int) (hn:l.length<1000000) (ty:TypeId) :
  ∃ a c X,(Builtin.append_ #[25,25] ty #[v,.slice (some ⟨W.heap.size,0,none⟩) 1 1]).run Tryz.prog (W.alloc (.cells #[.int .i64 x] 3))=.ok (.slice a (l.length+1) c) X∧iK B X (.slice a (l.length+1) c) (l++[x])∧(∀ {B':Nat} {W0:World},B'≤B→Below B' W0 W→Below B' W0 X):=by
 have hb:Below W.heap.size W (W.alloc (.cells #[.int .i64 x] 3)):=(Below.refl _ _).alloc (Nat.le_refl _) _;obtain ⟨v',X,r1,r2,r3,r4,a,c,rfl⟩:=cR (P:=Tryz.prog) aX ty (Rg.aQ h.own hb) (Nat.le_trans hB hb.size) W.heap.size 1 (u:=.int .i64 x) (by rw [Rg.aM]; rfl) rfl hn;refine ⟨a,c,X,r1,⟨by rw [List.length_append,List.map_append]; exact r2⟩,fun {B' W0} qs dG=>?_⟩;exact (dG.alloc (Nat.le_trans qs hB) _).grown r3 (Nat.le_trans (Nat.le_trans qs hB) hb.size) (fun j hj=>Nat.le_trans qs ((Rg.aQ h.own hb).lt j hj).1)
def dP (tr:Tr) (i p:Nat):List Nat:=(List.range p).filter fun q=>decide (i≤q) && (q == i || (tr i q).isSome)
def nU (n:Nat) (tr:Tr) (i:Nat):List Nat:=dP tr i n
theorem uD (tr:Tr) (i:Nat):dP tr i i=[]:=by
 unfold dP;rw [List.filter_eq_nil_iff];intro q hq;have:=List.mem_range.1 hq;simp; omega
theorem zr {tr:Tr} {i p:Nat} (hi:i≤p) (h:p=i∨(tr i p).isSome=true):dP tr i (p+1)=dP tr i p++[p]:=by
 unfold dP;rw [List.range_succ,List.filter_append]
 have:(decide (i≤p) && (p == i || (tr i p).isSome))=true:=by
  rcases h with h | h
  ·simp [h]
  ·simp [hi,h]
 simp [this]
theorem Mz {tr:Tr} {i p:Nat} (h:p≠i) (h2:tr i p=none):dP tr i (p+1)=dP tr i p:=by
 unfold dP;rw [List.range_succ,List.filter_append];simp [h,h2]
theorem pM (tr:Tr) (i p:Nat):(dP tr i p).length≤p:=by
 unfold dP
 have:=List.length_filter_le (fun q=>decide (i≤q) && (q == i || (tr i q).isSome)) (List.range p)
 simpa using this
theorem Jy {tr:Tr} {i p q:Nat}:q∈dP tr i p↔q<p∧i≤q∧(q=i∨(tr i q).isSome=true):=by
 unfold dP;rw [List.mem_filter,List.mem_range];simp
theorem Jz (tr:Tr) (i p:Nat):(dP tr i p).Pairwise (· < ·):=List.Pairwise.filter _ List.pairwise_lt_range
theorem zt (l:List Nat) (x:Nat):Ma.ah (l++[x])=Ma.ah l++[(x:Int)]:=by simp [Ma.ah]
def C5 (w:World) (l:List Nat) (e:Ending) (w':World):Prop:=∃ v,e=.returned v∧iK w.heap.size w' v (Ma.ah l)∧Below w.heap.size w w'
theorem qA (aZ:1≤n) (bn:n≤64) {w:World} {tr:Tr} {Rb:Nat→Nat} {V:Nat→Nat→Value} (hT:bW F tb tf n w tr Rb V) (cD:∀ i p u,tr i p=some u→Cm.Gd n u) {i:Nat} (hi:i<n) :
  Calls Tryz.prog 122 #[.slice (some ⟨tb,tf,none⟩) n tc,.int .i64 ((i:Nat):Int)] w (C5 w (nU n tr i)):=by
 have HT:=ι hT;have HG:=ι cD;have bw:=ι hi;have CO:=ι (hT.out i hi);have K:=ι (Below.refl w.heap.size w);have RO:=ι (show iK w.heap.size w (.slice none 0 0) (Ma.ah (dP tr i i)) by rw [uD]; exact iK.nil _ _)
 have MA:(dP tr i i).length=0:=by rw [uD]; rfl
 clear hT cD
 go_enter Tryz.func122,Tryz.ntmps122
 go_wp2
 go_loopw [5,6] (fun tv qv wr=>∃ (q:Nat) (a:Option Addr) (c:Nat),qv=.int .i64 q∧tv=.slice a (dP tr i q).length c∧i≤q∧q≤n∧Hid (iK w.heap.size wr tv (Ma.ah (dP tr i q)))∧Hid (Below w.heap.size w wr)) (fun _ qv _=>n - (intOf qv).toNat)
 case atStart=>exact ⟨i,_,_,rfl,by rw [MA],Nat.le_refl _,Nat.le_of_lt bw.out,RO,K⟩
 case round =>
  clear RO K MA;obtain ⟨q,ta,Pb,rfl,rfl,VU,hq,RO,K⟩:=hrel
  by_cases gZ:q<n
  ·have Ml:(q:Int)<(n:Int):=by omega
   have j2:=ι gZ;have CE:=ι (CL.mk (show w.cell? ⟨Rb i,0+q,none⟩=some (V i q) by rw [Nat.zero_add]; exact HT.out.cell hi gZ) (HT.out.lt hi));have wS:=ι (show (Ma.ah (dP tr i q)).length<1000000 by rw [Ma.aG]; have:=pM tr i q; omega);have VV:=ι (Ma.aG (dP tr i q))
   by_cases lD:q=i
   ·have VW:(q:Int)=(i:Int):=by omega
    have HE:=ι (zr (tr:=tr) VU (.inl lD));go_upto_region 5 with fail
    refine b6<|i4 rfl<|i4 rfl<|i8 (d9 (.bool true) .eql (h:=cJ _ d5))<|i7 rfl ?_;go_frame
    refine d7 18<|d7 19<|d7 20<|d7 21<|d7 22 ?_;go_frame
    refine d7 23<|d7 24<|d7 25<|i8 (f7 (.bool true)) ?_;go_frame
    go_upto_region 6 with fail
    refine b6<|i5 rfl<|i4 rfl<|i8 (Rg.aC _ _ _ rfl (.int .i64 ((q:Nat):Int)) rfl (kt wr _)) ?_;go_frame
    obtain ⟨a9,c9,X9,r1,r2,r3⟩:=RO.out.push K.out.size ((q:Nat):Int) wS.out 25;rw [VV.out] at r1 r2
    refine i8 (Rg.aP _ _ _ rfl rfl rfl r1)<|i5 rfl ?_;go_frame
    have K2:=ι (r3 (Nat.le_refl _) K.out);have qu:=ι (show iK w.heap.size X9 (.slice a9 ((dP tr i q).length+1) c9) (Ma.ah (dP tr i (q+1))) by rw [HE.out,zt]; exact r2);have Fh:=ι (show (dP tr i (q+1)).length=(dP tr i q).length+1 by rw [HE.out,List.length_append]; rfl);clear r1 r2 r3;go_wp2
    go_roundw
    case rel=>exact ⟨q+1,_,_,by go_num,by rw [Fh.out],by omega,j2.out,qu,K2⟩
    case measure=>simp [intOf]; have:=j2.out; omega
   ·have VW:¬ (q:Int)=(i:Int):=by omega
    cases dx:tr i q with
    | none =>
     have p4:=HT.out.none_ i q hi gZ dx;rw [p4] at CE;have HE:=ι (Mz lD dx);clear p4 dx;go_upto_region 5 with fail
     refine b6<|i4 rfl<|i4 rfl<|i8 (d9 (.bool false) .eql (h:=cJ _ d6))<|i7 rfl ?_;go_frame
     refine i5 rfl<|i4 rfl<|i8 (ag ft _ _ rfl tb (tf) (n) tc (i) rfl rfl bw.out)<|i8 (d8 (.slice (some ⟨(Rb i),0,none⟩) n n) ⟨tb,tf+i,none⟩ (Rg.ae _ _ Tryz.underlying22 ((Below.cell (p:=⟨tb,tf+i,none⟩) K.out CO.out.lt).trans CO.out.cell)))<|i4 rfl ?_;go_frame
     refine i8 (ag aE _ _ rfl (Rb i) (0) (n) n (q) rfl rfl j2.out)<|i8 (d8 (.slice none 0 0) ⟨(Rb i),0+q,none⟩ (Rg.ae _ _ Tryz.underlying26 ((Below.cell (p:=⟨(Rb i),0+q,none⟩) K.out CE.out.lt).trans CE.out.cell)))<|i8 (uC _ _ rfl rfl rfl)<|i8 (f4 (.bool false)) ?_;go_frame
     have qu:=ι (show iK w.heap.size wr (.slice ta (dP tr i q).length Pb) (Ma.ah (dP tr i (q+1))) by rw [HE.out]; exact RO.out);have Fh:=ι (show (dP tr i (q+1)).length=(dP tr i q).length by rw [HE.out]);go_wp2
     go_roundw
     case rel=>exact ⟨q+1,_,_,by go_num,by rw [Fh.out],by omega,j2.out,qu,K⟩
     case measure=>simp [intOf]; have:=j2.out; omega
    | some u =>
     have gu:=HG.out i q u dx;have oL:=HT.out.some_ i q u hi gZ dx;obtain ⟨ub,uo,uc,oV⟩:=oL.eC gu aZ;rw [oV] at CE;have HE:=ι (zr (tr:=tr) VU (.inr (by rw [dx]; rfl)));clear gu oL oV dx;go_upto_region 5 with fail
     refine b6<|i4 rfl<|i4 rfl<|i8 (d9 (.bool false) .eql (h:=cJ _ d6))<|i7 rfl ?_;go_frame
     refine i5 rfl<|i4 rfl<|i8 (ag ft _ _ rfl tb (tf) (n) tc (i) rfl rfl bw.out)<|i8 (d8 (.slice (some ⟨(Rb i),0,none⟩) n n) ⟨tb,tf+i,none⟩ (Rg.ae _ _ Tryz.underlying22 ((Below.cell (p:=⟨tb,tf+i,none⟩) K.out CO.out.lt).trans CO.out.cell)))<|i4 rfl ?_;go_frame
     refine i8 (ag aE _ _ rfl (Rb i) (0) (n) n (q) rfl rfl j2.out)<|i8 (d8 (.slice (some ⟨ub,uo,none⟩) n uc) ⟨(Rb i),0+q,none⟩ (Rg.ae _ _ Tryz.underlying26 ((Below.cell (p:=⟨(Rb i),0+q,none⟩) K.out CE.out.lt).trans CE.out.cell)))<|i8 (uB _ _ rfl rfl rfl)<|i8 (f4 (.bool true)) ?_;go_frame
     go_upto_region 6 with fail
     refine b6<|i5 rfl<|i4 rfl<|i8 (Rg.aC _ _ _ rfl (.int .i64 ((q:Nat):Int)) rfl (kt wr _)) ?_;go_frame
     obtain ⟨a9,c9,X9,r1,r2,r3⟩:=RO.out.push K.out.size ((q:Nat):Int) wS.out 25;rw [VV.out] at r1 r2
     refine i8 (Rg.aP _ _ _ rfl rfl rfl r1)<|i5 rfl ?_;go_frame
     have K2:=ι (r3 (Nat.le_refl _) K.out);have qu:=ι (show iK w.heap.size X9 (.slice a9 ((dP tr i q).length+1) c9) (Ma.ah (dP tr i (q+1))) by rw [HE.out,zt]; exact r2);have Fh:=ι (show (dP tr i (q+1)).length=(dP tr i q).length+1 by rw [HE.out,List.length_append]; rfl);clear r1 r2 r3;go_wp2
     go_roundw
     case rel=>exact ⟨q+1,_,_,by go_num,by rw [Fh.out],by omega,j2.out,qu,K2⟩
     case measure=>simp [intOf]; have:=j2.out; omega
  ·obtain rfl:q=n:=by omega
   have Ml:¬ (q:Int)<(q:Int):=by omega
   go_wp2;go_ret;exact (show C5 _ _ _ _ from ⟨_,rfl,RO.out,K.out⟩)

theorem Fi (args:Array Value) (w:World):(callFunc 58 args).run Tryz.prog w=.ok (.enter 58 args) w:=by kernel_rfl
theorem Fj (args:Array Value) (w:World):(callFunc 122 args).run Tryz.prog w=.ok (.enter 122 args) w:=by kernel_rfl
theorem AD (args:Array Value) (w:World):(callFunc 103 args).run Tryz.prog w=.ok (.enter 103 args) w:=by kernel_rfl
theorem iK.up {v:Value} (h:iK B W v l) (hb:Below W.heap.size W W'):iK B W' v l:=h.below hb
theorem iK.at {a:Option Addr} {c:Nat} {l:List Nat} (h:iK B W (.slice a m c) (Ma.ah l)) (hk:k<l.length):∃ g,a=some ⟨g,0,none⟩∧CL W g (0+k) (.int .i64 ((l[k]:Nat):Int)):=by
 obtain ⟨g,c',u,e1,e2,e3,e4⟩:=iE h.own (k:=k) (by rw [Ma.aG]; exact hk)
 injection e1 with e1 _ _
 refine ⟨g,e1,?_,e4⟩;rw [e2,← e3];simp [Ma.ah,List.getElem?_eq_getElem hk]
theorem Pc {gs:List Nat→Prop} {tr:Tr} (h:cE n gs tr) {i p:Nat} {u:List Nat} (h1:tr i p=some u):i≤p:=by
 have hne:p≠i:=fun e=>by subst e; rw [h.diag] at h1; cases h1
 have hid:Cm.cp n tr i p=some u:=by rw [Cm.cA hne]; exact h1
 have hi:=(h.lt i p u h1).1;have hp:=(h.lt i p u h1).2;refine Nat.le_of_not_lt fun aJ=>hne ?_;have a1:=h.rp.at_ i p u (Nat.zero_le _) hi hid;have a2:=h.rp.fx i p u (Nat.zero_le _) hi hid p aJ;exact Cm.ku (h.rp.gd i p u (Nat.zero_le _) hi hid) hp hi (a2.trans a1.symm)
theorem tM {gs:List Nat→Prop} {tr:Tr} (h:cE n gs tr) {i p:Nat} (hi:i<n):p∈nU n tr i↔∃ u,Cm.cp n tr i p=some u:=by
 unfold nU;rw [Jy]
 constructor
 ·rintro ⟨h1,h2,h3⟩
  by_cases e:p=i
  ·subst e; exact ⟨_,Cm.cP⟩
  ·rw [Cm.cA e]
   rcases h3 with h3 | h3
   ·exact absurd h3 e
   ·exact Option.isSome_iff_exists.1 h3
 ·rintro ⟨u,hu⟩
  by_cases e:p=i
  ·subst e; exact ⟨hi,Nat.le_refl _,.inl rfl⟩
  ·rw [Cm.cA e] at hu
   exact ⟨(h.lt i p u hu).2,Pc h hu,.inr (by rw [hu]; rfl)⟩
def AE (w:World) (n i:Nat) (H:List Nat→Prop) (u:List Nat) (e:Ending) (w':World):Prop:=∃ v y B,e=.returned v∧w.heap.size≤B∧w'.ownsRow B 3 1 v (Ma.ah y).length ((Ma.ah y).map (Value.int .i64))∧Cm.LI H i n u y∧Cm.Gd n y∧Below w.heap.size w w'
theorem C6 (aZ:1≤n) (bn:n≤64) {w:World} {tr:Tr} {Rb:Nat→Nat} {V:Nat→Nat→Value} (hT:bW F0 tb tf n w tr Rb V) {gs:List Nat→Prop} (hg:∀ s,gs s→Cm.Gd n s) (tL:cE n gs tr) (dx:Cm.kn n (Cm.Gr n gs) (Cm.cp n tr)) {i p:Nat} (hi:i<n) {u:List Nat} (hu:Cm.cp n tr i p=some u) :
  Calls Tryz.prog 123 #[.slice (some ⟨tb,tf,none⟩) n tc,.int .i64 ((i:Nat):Int),.int .i64 ((p:Nat):Int)] w (AE w n i (Cm.Gr n gs) u):=by
 have HT:=ι hT;have HH:=ι (Cm.Gr.fW hg);have OK:=ι tL;have n5:=ι dx;have bw:=ι hi;have HU:=ι hu;have MB:=ι (tL.rp.gd i p u (Nat.zero_le _) hi hu);have mM:=ι (Cm.LI.start (Cm.Gr.fW hg) hi MB.out);have CO:=ι (hT.out i hi);have K:=ι (KG.refl hT.gB);have KB:=ι (Below.refl w.heap.size w)
 have OU:p<n:=by
  by_cases e:p=i
  ·omega
  ·rw [Cm.cA e] at hu; exact (tL.lt i p u hu).2
 have r_:=ι OU;have CE:=ι (CL.mk (show w.cell? ⟨Rb i,0+p,none⟩=some (V i p) by rw [Nat.zero_add]; exact hT.cell hi OU) (hT.lt hi));clear hT hg tL dx hu
 go_enter Tryz.func123,Tryz.ntmps123
 go_upto_region 1 with fail
 refine b6<|i5 rfl<|i8 (e8 Tryz.underlying141) ?_;go_frame
 refine d4 14 (aq 58 _ _ rfl rfl (Fi _ _)) ?_;refine (oB n w (by omega)).mono ?_;rintro e1 w1 ⟨ov,rfl,lG,hb⟩;replace KB:=ι (Rg.acc KB.out hb);refine ⟨_,rfl,?_⟩;go_frame;replace HT:=ι (HT.out.up hb);replace CO:=ι (CO.out.up hb);replace CE:=ι (CE.out.up hb);replace K:=ι (K.out.up hb);have XO:=ι (FP.new (F:=F0) lG);generalize cx F0 w w1=F1 at *;clear hb;refine i3 (ov) rfl ?_;go_frame;clear lG
 by_cases Pd:p=i
 ·have VX:(p:Int)=(i:Int):=by omega
  have XV:=ι (show FP F1 w1 ov u by
   have:=HU.out;subst Pd;rw [Cm.cP] at this
   injection this with this
   rw [← this]; exact XO.out)
  clear Pd XO CO CE;go_upto_region 2 with fail
  refine b6<|i4 rfl<|i4 rfl<|i8 (d9 (.bool false) .neq (h:=ax _ d6)) ?_;go_frame
  go_wp2
  go_loopw [8,7] (fun kv yv wr=>∃ (k:Nat) (y:List Nat) (F1:Nat→Prop),kv=.int .i64 k∧i<k∧k≤n∧Hid (FP F1 wr yv y)∧Hid (bW F1 tb tf n wr tr Rb V)∧Hid (KG F0 w F1 wr)∧Hid (Below w.heap.size w wr)∧Hid (Cm.Gd n y)∧Hid (Cm.LI (Cm.Gr n gs) i k u y)) (fun kv _ _=>n - (intOf kv).toNat)
  case atStart=>exact ⟨i+1,u,_,by go_num,Nat.lt_succ_self _,bw.out,XV,HT,K,KB,MB,mM⟩
  case round =>
   clear XV HT K KB mM;obtain ⟨k,y,F,rfl,iG,fD,X,HT,K,KB,GY,mM⟩:=hrel;obtain ⟨yb,yo,yc,rfl⟩:=X.out.eC GY.out aZ
   by_cases bP:k<n
   ·have iH:(k:Int)<(n:Int):=by omega
    have bd:=ι bP;go_upto_region 7 with fail
    refine b6<|i5 rfl<|i4 rfl ?_;go_frame
    refine d4 35 (aD 122 _ _ _ rfl rfl rfl (Fj _ _)) ?_;refine (qA aZ bn HT.out (fun i p u e=>g_ OK.out e) bd.out).mono ?_;rintro e1 w1 ⟨Pe,rfl,lG,hb⟩;replace KB:=ι (Rg.acc KB.out hb);refine ⟨_,rfl,?_⟩;go_frame;replace HT:=ι (HT.out.up hb);replace X:=ι (X.out.up hb);replace K:=ι (K.out.up hb);have RO:=ι lG;generalize cx F wr w1=F1 at *;clear hb;refine i3 (Pe) rfl ?_;go_frame;clear lG;obtain ⟨oa,oc,cK⟩:=RO.out.shape;rw [Ma.aG] at cK;subst cK;have Fk:=ι (fun q=>tM (p:=q) OK.out bd.out);have wK:=ι (pM tr k n);obtain ⟨O,hO⟩:∃ O,Hid (nU n tr k=O):=⟨_,ι rfl⟩;have Fl:=wK.out;rw [show dP tr k n=O from hO.out] at Fl;replace wK:=ι Fl;rw [hO.out] at RO Fk ⊢;obtain ⟨B9,Fe⟩:∃ B,Hid (wr.heap.size=B):=⟨_,ι rfl⟩;rw [Fe.out] at RO;clear Fl hO Fe;have j_:=ι (show ∀ m (h:m<O.length),m<0→Cm.ap y k≤Cm.ap y O[m] from fun m _ h=>absurd h (Nat.not_lt_zero _))
    have jZ:=ι (show ∃ v,Cm.cp n tr k k=some v from ⟨_,Cm.cP⟩);go_wp2
    go_loopw [10,11] (fun bv iv wr=>∃ (b m:Nat) (F1:Nat→Prop),bv=.int .i64 b∧iv=.int .i64 m∧m≤O.length∧b<n∧Hid (FP F1 wr (.slice (some ⟨yb,yo,none⟩) n yc) y)∧Hid (bW F1 tb tf n wr tr Rb V)∧Hid (iK B9 wr (.slice oa O.length oc) (Ma.ah O))∧Hid (KG F0 w F1 wr)∧Hid (Below w.heap.size w wr)∧Hid (∃ v,Cm.cp n tr k b=some v)∧Hid (∀ m' (h:m' < O.length),m' < m→Cm.ap y b≤Cm.ap y O[m'])) (fun _ iv _=>O.length - (intOf iv).toNat)
    case atStart=>exact ⟨k,0,_,rfl,rfl,Nat.zero_le _,bd.out,X,HT,RO,K,KB,jZ,j_⟩
    case round =>
     clear X HT RO K KB jZ j_;obtain ⟨b,m,F,rfl,rfl,hm,n7,X,HT,RO,K,KB,jZ,j_⟩:=hrel
     have Ji:(O.length:Int)≤64:=by have:=wK.out; omega
     by_cases kX:m<O.length
     ·have wm:(m:Int)<(O.length:Int):=by omega
      obtain ⟨og,rfl,Fm⟩:=RO.out.at kX;obtain ⟨q,hq⟩:∃ q:Nat,Hid (q=O[m]):=⟨_,ι rfl⟩;rw [← hq.out] at Fm;have CQ:=ι Fm;have fY:=ι kX;have wV:=ι n7;have ES:=ι ((Fk.out q).1 (by rw [hq.out]; exact List.getElem_mem kX))
      have gZ:q<n:=by
       obtain ⟨v,hv⟩:=ES.out
       by_cases e:q=k
       ·have:=bd.out; omega
       ·rw [Cm.cA e] at hv; exact (OK.out.lt k q v hv).2
      have j2:=ι gZ;have i_:=ι (X.out.ap GY.out gZ);have ja:=ι (X.out.ap GY.out n7);obtain ⟨yq,wu⟩:∃ z:Nat,Hid (z=Cm.ap y q):=⟨_,ι rfl⟩;obtain ⟨oP,wx⟩:∃ z:Nat,Hid (z=Cm.ap y b):=⟨_,ι rfl⟩;rw [← wu.out] at i_;rw [← wx.out] at ja;clear Fm gZ n7 hm
      by_cases aJ:yq<oP
      ·have Co:(yq:Int)<(oP:Int):=by omega
       go_upto_region 12 with fail;have cO:Below wr.heap.size wr wr.drew:=(Below.refl _ _).drew;replace KB:=ι (Rg.acc KB.out cO);clear cO;have aw:Below wr.heap.size wr wr.drew:=(Below.refl _ _).drew;replace HT:=ι (HT.out.up aw);replace X:=ι (X.out.up aw);replace RO:=ι (RO.out.up aw);replace CQ:=ι (CQ.out.up aw);replace i_:=ι (i_.out.up aw);replace ja:=ι (ja.out.up aw);replace K:=ι (K.out.up aw);generalize cx F wr wr.drew=F1 at *;clear aw;refine Rg.Any.begin (S:=Rg.aH 11 (fun _=>True) (fun W=>Below wr.drew.heap.size wr.drew W)) mix ?_;generalize wr.drew=w1 at *;have hS:∀ (l:Array Bool) W,Below w1.heap.size w1 W→Rg.aH 11 (fun _=>True) (fun W=>Below w1.heap.size w1 W) l W:=fun l W h=>⟨.inr trivial,h⟩;have hI:Below w1.heap.size w1 w1:=Below.refl _ _
       refine c8 0 11 (.slice (some ⟨yb,yo,none⟩) n yc) 43 (hS _ _ hI)<|c8 1 11 (.slice (some ⟨og,0,none⟩) O.length oc) 44 (hS _ _ hI)<|c8 2 11 (.int .i64 ((m:Nat):Int)) 45 (hS _ _ hI)<|c7 3 11 (.pointer (some ⟨og,0+m,none⟩)) 46 rfl rfl (Rg.ai aX _ _ rfl rfl og (0) (O.length) oc (m) rfl rfl fY.out) (hS _ _ hI)<|c7 4 11 (.int .i64 ((q:Nat):Int)) 47 rfl rfl (g6 ⟨og,0+m,none⟩ (fun W hW=>af ((Below.cell (p:=⟨og,0+m,none⟩) hW CQ.out.lt).trans CQ.out.cell))) (hS _ _ hI) ?_;go_frame
       refine c7 5 11 (.pointer (some ⟨yb,yo+q,none⟩)) 48 rfl rfl (Rg.ai bK _ _ rfl rfl yb (yo) (n) yc (q) rfl rfl j2.out) (hS _ _ hI)<|c7 6 11 (.int .i64 ((yq:Nat):Int)) 49 rfl rfl (g6 ⟨yb,yo+q,none⟩ (fun W hW=>af ((Below.cell (p:=⟨yb,yo+q,none⟩) hW i_.out.lt).trans i_.out.cell))) (hS _ _ hI)<|c8 7 11 (.slice (some ⟨yb,yo,none⟩) n yc) 50 (hS _ _ hI)<|c8 8 11 (.int .i64 ((b:Nat):Int)) 51 (hS _ _ hI)<|c7 9 11 (.pointer (some ⟨yb,yo+b,none⟩)) 52 rfl rfl (Rg.ai bK _ _ rfl rfl yb (yo) (n) yc (b) rfl rfl wV.out) (hS _ _ hI) ?_;go_frame
       refine c7 10 11 (.int .i64 ((oP:Nat):Int)) 53 rfl rfl (g6 ⟨yb,yo+b,none⟩ (fun W hW=>af ((Below.cell (p:=⟨yb,yo+b,none⟩) hW ja.out.lt).trans ja.out.cell))) (hS _ _ hI)<|g5 11 54 rfl rfl (d9 (.bool true) .lss (h:=aL _ d5)) (hS _ _ hI) ?_;go_frame
       refine Rg.Any.done (by kernel_rfl) ?_ _;clear hS hI;go_upto_region 13 with fail
       refine b6<|i5 rfl<|i4 rfl<|i8 (ag aX _ _ rfl og (0) (O.length) oc (m) rfl rfl fY.out)<|i8 (d8 (.int .i64 ((q:Nat):Int)) ⟨og,0+m,none⟩ (af CQ.out.cell)) ?_;go_frame
       refine i4 rfl ?_;go_frame
       have wy:=ι (show ∀ m' (h:m' < O.length),m' < m+1→Cm.ap y q≤Cm.ap y O[m'] from fun m' h h2=>by
        have a1:=wu.out;have a2:=wx.out
        by_cases e:m'=m
        ·subst e
         rw [← hq.out]; omega
        ·have:=j_.out m' h (by omega)
         omega)
       go_wp2
       go_roundw
       case rel=>exact ⟨q,m+1,_,rfl,by go_num,fY.out,j2.out,X,HT,RO,K,KB,ES,wy⟩
       case measure=>simp [intOf]; have:=fY.out; omega
      ·have Co:¬ (yq:Int)<(oP:Int):=by omega
       go_upto_region 12 with fail;have cO:Below wr.heap.size wr wr.drew:=(Below.refl _ _).drew;replace KB:=ι (Rg.acc KB.out cO);clear cO;have aw:Below wr.heap.size wr wr.drew:=(Below.refl _ _).drew;replace HT:=ι (HT.out.up aw);replace X:=ι (X.out.up aw);replace RO:=ι (RO.out.up aw);replace CQ:=ι (CQ.out.up aw);replace i_:=ι (i_.out.up aw);replace ja:=ι (ja.out.up aw);replace K:=ι (K.out.up aw);generalize cx F wr wr.drew=F1 at *;clear aw;refine Rg.Any.begin (S:=Rg.aH 11 (fun _=>True) (fun W=>Below wr.drew.heap.size wr.drew W)) mix ?_;generalize wr.drew=w1 at *;have hS:∀ (l:Array Bool) W,Below w1.heap.size w1 W→Rg.aH 11 (fun _=>True) (fun W=>Below w1.heap.size w1 W) l W:=fun l W h=>⟨.inr trivial,h⟩;have hI:Below w1.heap.size w1 w1:=Below.refl _ _
       refine c8 0 11 (.slice (some ⟨yb,yo,none⟩) n yc) 43 (hS _ _ hI)<|c8 1 11 (.slice (some ⟨og,0,none⟩) O.length oc) 44 (hS _ _ hI)<|c8 2 11 (.int .i64 ((m:Nat):Int)) 45 (hS _ _ hI)<|c7 3 11 (.pointer (some ⟨og,0+m,none⟩)) 46 rfl rfl (Rg.ai aX _ _ rfl rfl og (0) (O.length) oc (m) rfl rfl fY.out) (hS _ _ hI)<|c7 4 11 (.int .i64 ((q:Nat):Int)) 47 rfl rfl (g6 ⟨og,0+m,none⟩ (fun W hW=>af ((Below.cell (p:=⟨og,0+m,none⟩) hW CQ.out.lt).trans CQ.out.cell))) (hS _ _ hI) ?_;go_frame
       refine c7 5 11 (.pointer (some ⟨yb,yo+q,none⟩)) 48 rfl rfl (Rg.ai bK _ _ rfl rfl yb (yo) (n) yc (q) rfl rfl j2.out) (hS _ _ hI)<|c7 6 11 (.int .i64 ((yq:Nat):Int)) 49 rfl rfl (g6 ⟨yb,yo+q,none⟩ (fun W hW=>af ((Below.cell (p:=⟨yb,yo+q,none⟩) hW i_.out.lt).trans i_.out.cell))) (hS _ _ hI)<|c8 7 11 (.slice (some ⟨yb,yo,none⟩) n yc) 50 (hS _ _ hI)<|c8 8 11 (.int .i64 ((b:Nat):Int)) 51 (hS _ _ hI)<|c7 9 11 (.pointer (some ⟨yb,yo+b,none⟩)) 52 rfl rfl (Rg.ai bK _ _ rfl rfl yb (yo) (n) yc (b) rfl rfl wV.out) (hS _ _ hI) ?_;go_frame
       refine c7 10 11 (.int .i64 ((oP:Nat):Int)) 53 rfl rfl (g6 ⟨yb,yo+b,none⟩ (fun W hW=>af ((Below.cell (p:=⟨yb,yo+b,none⟩) hW ja.out.lt).trans ja.out.cell))) (hS _ _ hI)<|g5 11 54 rfl rfl (d9 (.bool false) .lss (h:=aL _ d6)) (hS _ _ hI) ?_;go_frame
       refine Rg.Any.done (by kernel_rfl) ?_ _;clear hS hI
       have wy:=ι (show ∀ m' (h:m' < O.length),m' < m+1→Cm.ap y b≤Cm.ap y O[m'] from fun m' h h2=>by
        have a1:=wu.out;have a2:=wx.out
        by_cases e:m'=m
        ·subst e
         rw [← hq.out]; omega
        ·have:=j_.out m' h (by omega)
         omega)
       go_wp2
       go_roundw
       case rel=>exact ⟨b,m+1,_,rfl,by go_num,fY.out,wV.out,X,HT,RO,K,KB,jZ,wy⟩
       case measure=>simp [intOf]; have:=fY.out; omega
     ·obtain rfl:m=O.length:=by omega
      have wm:¬ (O.length:Int)<(O.length:Int):=by omega
      have uz:=ι (show ∀ q',Cm.cp n tr k q'≠none→Cm.ap y b≤Cm.ap y q' from fun q' ym=>by
       obtain ⟨v,hv⟩:=Option.ne_none_iff_exists'.1 ym;obtain ⟨m',mH,rfl⟩:=List.getElem_of_mem ((Fk.out q').2 ⟨v,hv⟩)
       exact j_.out m' mH mH)
      obtain ⟨v,hv⟩:=jZ.out;have Cp:=ι (Cm.LI.step HH.out n5.out MB.out iG bd.out mM.out hv uz.out);have GV:=ι (OK.out.rp.gd k b v (Nat.zero_le _) bd.out hv);have GM:=ι (Cm.a_ GV.out GY.out);clear uz j_ jZ
      by_cases l0:b=k
      ·have LM:(b:Int)=(k:Int):=by omega
       have HE:=ι (show Ma.aj v y=y by
        subst l0;rw [Cm.cP] at hv
        injection hv with e
        rw [← e,Cm.one_mul GY.out])
       clear l0 hv;go_upto_region 14 with fail
       refine b6<|i4 rfl<|i4 rfl<|i8 (d9 (.bool false) .neq (h:=ax _ d6)) ?_;go_frame
       go_wp2
       go_roundw
       case rel=>exact ⟨k+1,y,_,by go_num,by omega,bd.out,X,HT,K,KB,GY,ι (by have:=Cp.out; rwa [HE.out] at this)⟩
       case measure=>simp [intOf]; have:=bd.out; omega
      ·have LM:¬ (b:Int)=(k:Int):=by omega
       rw [Cm.cA l0] at hv;have wV:=ι n7;have UP:=ι (HT.out.some_ k b v bd.out n7 hv);have CO:=ι (HT.out.out k bd.out);have CE:=ι (CL.mk (show wr.cell? ⟨Rb k,0+b,none⟩=some (V k b) by rw [Nat.zero_add]; exact HT.out.cell bd.out n7) (HT.out.lt bd.out));clear l0 hv;go_upto_region 14 with fail
       refine b6<|i4 rfl<|i4 rfl<|i8 (d9 (.bool true) .neq (h:=ax _ d5)) ?_;go_frame
       go_upto_region 15 with fail
       refine b6<|i5 rfl<|i4 rfl<|i8 (ag ft _ _ rfl tb (tf) (n) tc (k) rfl rfl bd.out)<|i8 (d8 (.slice (some ⟨(Rb k),0,none⟩) n n) ⟨tb,tf+k,none⟩ (Rg.ae _ _ Tryz.underlying22 CO.out.cell)) ?_;go_frame
       refine i4 rfl<|i8 (ag aE _ _ rfl (Rb k) (0) (n) n (b) rfl rfl wV.out)<|i8 (d8 ((V k b)) ⟨(Rb k),0+b,none⟩ (Rg.ae _ _ Tryz.underlying26 CE.out.cell))<|i5 rfl ?_;go_frame
       refine d4 70 (aD 26 _ _ _ rfl rfl rfl (k8 _ _)) ?_;refine (pK UP.out X.out GV.out GY.out bn).mono ?_;rintro e1 w1 ⟨mv,rfl,dL,hb⟩;replace KB:=ι (Rg.acc KB.out hb);refine ⟨_,rfl,?_⟩;go_frame;replace HT:=ι (HT.out.up hb);replace X:=ι (X.out.up hb);replace UP:=ι (UP.out.up hb);replace CO:=ι (CO.out.up hb);replace CE:=ι (CE.out.up hb);replace K:=ι (K.out.up hb);have MV:=ι dL;generalize cx F wr w1=F1 at *;clear hb;refine i3 (mv) rfl ?_;go_frame;clear dL;go_wp2
       go_roundw
       case rel=>exact ⟨k+1,_,_,by go_num,by omega,bd.out,MV,HT,K,KB,GM,Cp⟩
       case measure=>simp [intOf]; have:=bd.out; omega
   ·obtain rfl:k=n:=by omega
    have iH:¬ (k:Int)<(k:Int):=by omega
    have AG:=ι KB.out.size;go_upto_region 16 with fail
    refine b6<|i5 rfl ?_;go_frame
    refine d4 72 (aq 103 _ _ rfl rfl (AD _ _)) ?_;refine (rX _ (Ma.ah y) wr X.out.np (by rw [Ma.aG,GY.out.2]; omega)).mono ?_;rintro e1 w1 ⟨v2,rfl,bD,hb⟩;replace KB:=ι (Rg.acc KB.out hb);have lO:=ι bD;clear bD;refine ⟨_,rfl,?_⟩;go_frame;replace HT:=ι (HT.out.up hb);replace X:=ι (X.out.up hb);replace K:=ι (K.out.up hb);generalize cx F wr w1=F1 at *;clear hb;refine i3 (v2) rfl ?_;go_frame;go_wp2;go_ret;exact (show AE _ _ _ _ _ _ _ from ⟨_,_,_,rfl,AG.out,lO.out,mM.out,GY.out,KB.out⟩)
 ·have VX:¬ (p:Int)=(i:Int):=by omega
  have XV:=ι (HT.out.some_ i p u bw.out r_.out (by have:=HU.out; rwa [Cm.cA Pd] at this));clear Pd XO;go_upto_region 2 with fail
  refine b6<|i4 rfl<|i4 rfl<|i8 (d9 (.bool true) .neq (h:=ax _ d5)) ?_;go_frame
  go_upto_region 3 with fail
  refine b6<|i5 rfl<|i4 rfl<|i8 (ag ft _ _ rfl tb (tf) (n) tc (i) rfl rfl bw.out)<|i8 (d8 (.slice (some ⟨(Rb i),0,none⟩) n n) ⟨tb,tf+i,none⟩ (Rg.ae _ _ Tryz.underlying22 CO.out.cell)) ?_;go_frame
  refine i4 rfl<|i8 (ag aE _ _ rfl (Rb i) (0) (n) n (p) rfl rfl r_.out)<|i8 (d8 ((V i p)) ⟨(Rb i),0+p,none⟩ (Rg.ae _ _ Tryz.underlying26 CE.out.cell))<|i3 ((V i p)) rfl ?_;go_frame
  clear CO CE;go_wp2
  go_loopw [8,7] (fun kv yv wr=>∃ (k:Nat) (y:List Nat) (F1:Nat→Prop),kv=.int .i64 k∧i<k∧k≤n∧Hid (FP F1 wr yv y)∧Hid (bW F1 tb tf n wr tr Rb V)∧Hid (KG F0 w F1 wr)∧Hid (Below w.heap.size w wr)∧Hid (Cm.Gd n y)∧Hid (Cm.LI (Cm.Gr n gs) i k u y)) (fun kv _ _=>n - (intOf kv).toNat)
  case atStart=>exact ⟨i+1,u,_,by go_num,Nat.lt_succ_self _,bw.out,XV,HT,K,KB,MB,mM⟩
  case round =>
   clear XV HT K KB mM;obtain ⟨k,y,F,rfl,iG,fD,X,HT,K,KB,GY,mM⟩:=hrel;obtain ⟨yb,yo,yc,rfl⟩:=X.out.eC GY.out aZ
   by_cases bP:k<n
   ·have iH:(k:Int)<(n:Int):=by omega
    have bd:=ι bP;go_upto_region 7 with fail
    refine b6<|i5 rfl<|i4 rfl ?_;go_frame
    refine d4 35 (aD 122 _ _ _ rfl rfl rfl (Fj _ _)) ?_;refine (qA aZ bn HT.out (fun i p u e=>g_ OK.out e) bd.out).mono ?_;rintro e1 w1 ⟨Pe,rfl,lG,hb⟩;replace KB:=ι (Rg.acc KB.out hb);refine ⟨_,rfl,?_⟩;go_frame;replace HT:=ι (HT.out.up hb);replace X:=ι (X.out.up hb);replace K:=ι (K.out.up hb);have RO:=ι lG;generalize cx F wr w1=F1 at *;clear hb;refine i3 (Pe) rfl ?_;go_frame;clear lG;obtain ⟨oa,oc,cK⟩:=RO.out.shape;rw [Ma.aG] at cK;subst cK;have Fk:=ι (fun q=>tM (p:=q) OK.out bd.out);have wK:=ι (pM tr k n);obtain ⟨O,hO⟩:∃ O,Hid (nU n tr k=O):=⟨_,ι rfl⟩;have Fl:=wK.out;rw [show dP tr k n=O from hO.out] at Fl;replace wK:=ι Fl;rw [hO.out] at RO Fk ⊢;obtain ⟨B9,Fe⟩:∃ B,Hid (wr.heap.size=B):=⟨_,ι rfl⟩;rw [Fe.out] at RO;clear Fl hO Fe;have j_:=ι (show ∀ m (h:m<O.length),m<0→Cm.ap y k≤Cm.ap y O[m] from fun m _ h=>absurd h (Nat.not_lt_zero _))
    have jZ:=ι (show ∃ v,Cm.cp n tr k k=some v from ⟨_,Cm.cP⟩);go_wp2
    go_loopw [10,11] (fun bv iv wr=>∃ (b m:Nat) (F1:Nat→Prop),bv=.int .i64 b∧iv=.int .i64 m∧m≤O.length∧b<n∧Hid (FP F1 wr (.slice (some ⟨yb,yo,none⟩) n yc) y)∧Hid (bW F1 tb tf n wr tr Rb V)∧Hid (iK B9 wr (.slice oa O.length oc) (Ma.ah O))∧Hid (KG F0 w F1 wr)∧Hid (Below w.heap.size w wr)∧Hid (∃ v,Cm.cp n tr k b=some v)∧Hid (∀ m' (h:m' < O.length),m' < m→Cm.ap y b≤Cm.ap y O[m'])) (fun _ iv _=>O.length - (intOf iv).toNat)
    case atStart=>exact ⟨k,0,_,rfl,rfl,Nat.zero_le _,bd.out,X,HT,RO,K,KB,jZ,j_⟩
    case round =>
     clear X HT RO K KB jZ j_;obtain ⟨b,m,F,rfl,rfl,hm,n7,X,HT,RO,K,KB,jZ,j_⟩:=hrel
     have Ji:(O.length:Int)≤64:=by have:=wK.out; omega
     by_cases kX:m<O.length
     ·have wm:(m:Int)<(O.length:Int):=by omega
      obtain ⟨og,rfl,Fm⟩:=RO.out.at kX;obtain ⟨q,hq⟩:∃ q:Nat,Hid (q=O[m]):=⟨_,ι rfl⟩;rw [← hq.out] at Fm;have CQ:=ι Fm;have fY:=ι kX;have wV:=ι n7;have ES:=ι ((Fk.out q).1 (by rw [hq.out]; exact List.getElem_mem kX))
      have gZ:q<n:=by
       obtain ⟨v,hv⟩:=ES.out
       by_cases e:q=k
       ·have:=bd.out; omega
       ·rw [Cm.cA e] at hv; exact (OK.out.lt k q v hv).2
      have j2:=ι gZ;have i_:=ι (X.out.ap GY.out gZ);have ja:=ι (X.out.ap GY.out n7);obtain ⟨yq,wu⟩:∃ z:Nat,Hid (z=Cm.ap y q):=⟨_,ι rfl⟩;obtain ⟨oP,wx⟩:∃ z:Nat,Hid (z=Cm.ap y b):=⟨_,ι rfl⟩;rw [← wu.out] at i_;rw [← wx.out] at ja;clear Fm gZ n7 hm
      by_cases aJ:yq<oP
      ·have Co:(yq:Int)<(oP:Int):=by omega
       go_upto_region 12 with fail;have cO:Below wr.heap.size wr wr.drew:=(Below.refl _ _).drew;replace KB:=ι (Rg.acc KB.out cO);clear cO;have aw:Below wr.heap.size wr wr.drew:=(Below.refl _ _).drew;replace HT:=ι (HT.out.up aw);replace X:=ι (X.out.up aw);replace RO:=ι (RO.out.up aw);replace CQ:=ι (CQ.out.up aw);replace i_:=ι (i_.out.up aw);replace ja:=ι (ja.out.up aw);replace K:=ι (K.out.up aw);generalize cx F wr wr.drew=F1 at *;clear aw;refine Rg.Any.begin (S:=Rg.aH 11 (fun _=>True) (fun W=>Below wr.drew.heap.size wr.drew W)) mix ?_;generalize wr.drew=w1 at *;have hS:∀ (l:Array Bool) W,Below w1.heap.size w1 W→Rg.aH 11 (fun _=>True) (fun W=>Below w1.heap.size w1 W) l W:=fun l W h=>⟨.inr trivial,h⟩;have hI:Below w1.heap.size w1 w1:=Below.refl _ _
       refine c8 0 11 (.slice (some ⟨yb,yo,none⟩) n yc) 43 (hS _ _ hI)<|c8 1 11 (.slice (some ⟨og,0,none⟩) O.length oc) 44 (hS _ _ hI)<|c8 2 11 (.int .i64 ((m:Nat):Int)) 45 (hS _ _ hI)<|c7 3 11 (.pointer (some ⟨og,0+m,none⟩)) 46 rfl rfl (Rg.ai aX _ _ rfl rfl og (0) (O.length) oc (m) rfl rfl fY.out) (hS _ _ hI)<|c7 4 11 (.int .i64 ((q:Nat):Int)) 47 rfl rfl (g6 ⟨og,0+m,none⟩ (fun W hW=>af ((Below.cell (p:=⟨og,0+m,none⟩) hW CQ.out.lt).trans CQ.out.cell))) (hS _ _ hI) ?_;go_frame
       refine c7 5 11 (.pointer (some ⟨yb,yo+q,none⟩)) 48 rfl rfl (Rg.ai bK _ _ rfl rfl yb (yo) (n) yc (q) rfl rfl j2.out) (hS _ _ hI)<|c7 6 11 (.int .i64 ((yq:Nat):Int)) 49 rfl rfl (g6 ⟨yb,yo+q,none⟩ (fun W hW=>af ((Below.cell (p:=⟨yb,yo+q,none⟩) hW i_.out.lt).trans i_.out.cell))) (hS _ _ hI)<|c8 7 11 (.slice (some ⟨yb,yo,none⟩) n yc) 50 (hS _ _ hI)<|c8 8 11 (.int .i64 ((b:Nat):Int)) 51 (hS _ _ hI)<|c7 9 11 (.pointer (some ⟨yb,yo+b,none⟩)) 52 rfl rfl (Rg.ai bK _ _ rfl rfl yb (yo) (n) yc (b) rfl rfl wV.out) (hS _ _ hI) ?_;go_frame
       refine c7 10 11 (.int .i64 ((oP:Nat):Int)) 53 rfl rfl (g6 ⟨yb,yo+b,none⟩ (fun W hW=>af ((Below.cell (p:=⟨yb,yo+b,none⟩) hW ja.out.lt).trans ja.out.cell))) (hS _ _ hI)<|g5 11 54 rfl rfl (d9 (.bool true) .lss (h:=aL _ d5)) (hS _ _ hI) ?_;go_frame
       refine Rg.Any.done (by kernel_rfl) ?_ _;clear hS hI;go_upto_region 13 with fail
       refine b6<|i5 rfl<|i4 rfl<|i8 (ag aX _ _ rfl og (0) (O.length) oc (m) rfl rfl fY.out)<|i8 (d8 (.int .i64 ((q:Nat):Int)) ⟨og,0+m,none⟩ (af CQ.out.cell)) ?_;go_frame
       refine i4 rfl ?_;go_frame
       have wy:=ι (show ∀ m' (h:m' < O.length),m' < m+1→Cm.ap y q≤Cm.ap y O[m'] from fun m' h h2=>by
        have a1:=wu.out;have a2:=wx.out
        by_cases e:m'=m
        ·subst e
         rw [← hq.out]; omega
        ·have:=j_.out m' h (by omega)
         omega)
       go_wp2
       go_roundw
       case rel=>exact ⟨q,m+1,_,rfl,by go_num,fY.out,j2.out,X,HT,RO,K,KB,ES,wy⟩
       case measure=>simp [intOf]; have:=fY.out; omega
      ·have Co:¬ (yq:Int)<(oP:Int):=by omega
       go_upto_region 12 with fail;have cO:Below wr.heap.size wr wr.drew:=(Below.refl _ _).drew;replace KB:=ι (Rg.acc KB.out cO);clear cO;have aw:Below wr.heap.size wr wr.drew:=(Below.refl _ _).drew;replace HT:=ι (HT.out.up aw);replace X:=ι (X.out.up aw);replace RO:=ι (RO.out.up aw);replace CQ:=ι (CQ.out.up aw);replace i_:=ι (i_.out.up aw);replace ja:=ι (ja.out.up aw);replace K:=ι (K.out.up aw);generalize cx F wr wr.drew=F1 at *;clear aw;refine Rg.Any.begin (S:=Rg.aH 11 (fun _=>True) (fun W=>Below wr.drew.heap.size wr.drew W)) mix ?_;generalize wr.drew=w1 at *;have hS:∀ (l:Array Bool) W,Below w1.heap.size w1 W→Rg.aH 11 (fun _=>True) (fun W=>Below w1.heap.size w1 W) l W:=fun l W h=>⟨.inr trivial,h⟩;have hI:Below w1.heap.size w1 w1:=Below.refl _ _
       refine c8 0 11 (.slice (some ⟨yb,yo,none⟩) n yc) 43 (hS _ _ hI)<|c8 1 11 (.slice (some ⟨og,0,none⟩) O.length oc) 44 (hS _ _ hI)<|c8 2 11 (.int .i64 ((m:Nat):Int)) 45 (hS _ _ hI)<|c7 3 11 (.pointer (some ⟨og,0+m,none⟩)) 46 rfl rfl (Rg.ai aX _ _ rfl rfl og (0) (O.length) oc (m) rfl rfl fY.out) (hS _ _ hI)<|c7 4 11 (.int .i64 ((q:Nat):Int)) 47 rfl rfl (g6 ⟨og,0+m,none⟩ (fun W hW=>af ((Below.cell (p:=⟨og,0+m,none⟩) hW CQ.out.lt).trans CQ.out.cell))) (hS _ _ hI) ?_;go_frame
       refine c7 5 11 (.pointer (some ⟨yb,yo+q,none⟩)) 48 rfl rfl (Rg.ai bK _ _ rfl rfl yb (yo) (n) yc (q) rfl rfl j2.out) (hS _ _ hI)<|c7 6 11 (.int .i64 ((yq:Nat):Int)) 49 rfl rfl (g6 ⟨yb,yo+q,none⟩ (fun W hW=>af ((Below.cell (p:=⟨yb,yo+q,none⟩) hW i_.out.lt).trans i_.out.cell))) (hS _ _ hI)<|c8 7 11 (.slice (some ⟨yb,yo,none⟩) n yc) 50 (hS _ _ hI)<|c8 8 11 (.int .i64 ((b:Nat):Int)) 51 (hS _ _ hI)<|c7 9 11 (.pointer (some ⟨yb,yo+b,none⟩)) 52 rfl rfl (Rg.ai bK _ _ rfl rfl yb (yo) (n) yc (b) rfl rfl wV.out) (hS _ _ hI) ?_;go_frame
       refine c7 10 11 (.int .i64 ((oP:Nat):Int)) 53 rfl rfl (g6 ⟨yb,yo+b,none⟩ (fun W hW=>af ((Below.cell (p:=⟨yb,yo+b,none⟩) hW ja.out.lt).trans ja.out.cell))) (hS _ _ hI)<|g5 11 54 rfl rfl (d9 (.bool false) .lss (h:=aL _ d6)) (hS _ _ hI) ?_;go_frame
       refine Rg.Any.done (by kernel_rfl) ?_ _;clear hS hI
       have wy:=ι (show ∀ m' (h:m' < O.length),m' < m+1→Cm.ap y b≤Cm.ap y O[m'] from fun m' h h2=>by
        have a1:=wu.out;have a2:=wx.out
        by_cases e:m'=m
        ·subst e
         rw [← hq.out]; omega
        ·have:=j_.out m' h (by omega)
         omega)
       go_wp2
       go_roundw
       case rel=>exact ⟨b,m+1,_,rfl,by go_num,fY.out,wV.out,X,HT,RO,K,KB,jZ,wy⟩
       case measure=>simp [intOf]; have:=fY.out; omega
     ·obtain rfl:m=O.length:=by omega
      have wm:¬ (O.length:Int)<(O.length:Int):=by omega
      have uz:=ι (show ∀ q',Cm.cp n tr k q'≠none→Cm.ap y b≤Cm.ap y q' from fun q' ym=>by
       obtain ⟨v,hv⟩:=Option.ne_none_iff_exists'.1 ym;obtain ⟨m',mH,rfl⟩:=List.getElem_of_mem ((Fk.out q').2 ⟨v,hv⟩)
       exact j_.out m' mH mH)
      obtain ⟨v,hv⟩:=jZ.out;have Cp:=ι (Cm.LI.step HH.out n5.out MB.out iG bd.out mM.out hv uz.out);have GV:=ι (OK.out.rp.gd k b v (Nat.zero_le _) bd.out hv);have GM:=ι (Cm.a_ GV.out GY.out);clear uz j_ jZ
      by_cases l0:b=k
      ·have LM:(b:Int)=(k:Int):=by omega
       have HE:=ι (show Ma.aj v y=y by
        subst l0;rw [Cm.cP] at hv
        injection hv with e
        rw [← e,Cm.one_mul GY.out])
       clear l0 hv;go_upto_region 14 with fail
       refine b6<|i4 rfl<|i4 rfl<|i8 (d9 (.bool false) .neq (h:=ax _ d6)) ?_;go_frame
       go_wp2
       go_roundw
       case rel=>exact ⟨k+1,y,_,by go_num,by omega,bd.out,X,HT,K,KB,GY,ι (by have:=Cp.out; rwa [HE.out] at this)⟩
       case measure=>simp [intOf]; have:=bd.out; omega
      ·have LM:¬ (b:Int)=(k:Int):=by omega
       rw [Cm.cA l0] at hv;have wV:=ι n7;have UP:=ι (HT.out.some_ k b v bd.out n7 hv);have CO:=ι (HT.out.out k bd.out);have CE:=ι (CL.mk (show wr.cell? ⟨Rb k,0+b,none⟩=some (V k b) by rw [Nat.zero_add]; exact HT.out.cell bd.out n7) (HT.out.lt bd.out));clear l0 hv;go_upto_region 14 with fail
       refine b6<|i4 rfl<|i4 rfl<|i8 (d9 (.bool true) .neq (h:=ax _ d5)) ?_;go_frame
       go_upto_region 15 with fail
       refine b6<|i5 rfl<|i4 rfl<|i8 (ag ft _ _ rfl tb (tf) (n) tc (k) rfl rfl bd.out)<|i8 (d8 (.slice (some ⟨(Rb k),0,none⟩) n n) ⟨tb,tf+k,none⟩ (Rg.ae _ _ Tryz.underlying22 CO.out.cell)) ?_;go_frame
       refine i4 rfl<|i8 (ag aE _ _ rfl (Rb k) (0) (n) n (b) rfl rfl wV.out)<|i8 (d8 ((V k b)) ⟨(Rb k),0+b,none⟩ (Rg.ae _ _ Tryz.underlying26 CE.out.cell))<|i5 rfl ?_;go_frame
       refine d4 70 (aD 26 _ _ _ rfl rfl rfl (k8 _ _)) ?_;refine (pK UP.out X.out GV.out GY.out bn).mono ?_;rintro e1 w1 ⟨mv,rfl,dL,hb⟩;replace KB:=ι (Rg.acc KB.out hb);refine ⟨_,rfl,?_⟩;go_frame;replace HT:=ι (HT.out.up hb);replace X:=ι (X.out.up hb);replace UP:=ι (UP.out.up hb);replace CO:=ι (CO.out.up hb);replace CE:=ι (CE.out.up hb);replace K:=ι (K.out.up hb);have MV:=ι dL;generalize cx F wr w1=F1 at *;clear hb;refine i3 (mv) rfl ?_;go_frame;clear dL;go_wp2
       go_roundw
       case rel=>exact ⟨k+1,_,_,by go_num,by omega,bd.out,MV,HT,K,KB,GM,Cp⟩
       case measure=>simp [intOf]; have:=bd.out; omega
   ·obtain rfl:k=n:=by omega
    have iH:¬ (k:Int)<(k:Int):=by omega
    have AG:=ι KB.out.size;go_upto_region 16 with fail
    refine b6<|i5 rfl ?_;go_frame
    refine d4 72 (aq 103 _ _ rfl rfl (AD _ _)) ?_;refine (rX _ (Ma.ah y) wr X.out.np (by rw [Ma.aG,GY.out.2]; omega)).mono ?_;rintro e1 w1 ⟨v2,rfl,bD,hb⟩;replace KB:=ι (Rg.acc KB.out hb);have lO:=ι bD;clear bD;refine ⟨_,rfl,?_⟩;go_frame;replace HT:=ι (HT.out.up hb);replace X:=ι (X.out.up hb);replace K:=ι (K.out.up hb);generalize cx F wr w1=F1 at *;clear hb;refine i3 (v2) rfl ?_;go_frame;go_wp2;go_ret;exact (show AE _ _ _ _ _ _ _ from ⟨_,_,_,rfl,AG.out,lO.out,mM.out,GY.out,KB.out⟩)

theorem Si (args:Array Value) (w:World):(callFunc 123 args).run Tryz.prog w=.ok (.enter 123 args) w:=by kernel_rfl
theorem C7 (aZ:1≤n) (bn:n≤64) {w:World} {tr:Tr} {Rb:Nat→Nat} {V:Nat→Nat→Value} (hT:bW F tb tf n w tr Rb V) {gs:List Nat→Prop} (hg:∀ s,gs s→Cm.Gd n s) (tL:cE n gs tr) (dx:Cm.kn n (Cm.Gr n gs) (Cm.cp n tr)) :
  Calls Tryz.prog 100 #[.slice (some ⟨tb,tf,none⟩) n tc] w fun e w'=>∃ ov rv O R,e=.returned (.agg #[.int .i64 ((n:Nat):Int),ov,rv])∧Rg.bs (fun z=>w.heap.size≤z) w' ov (O.map Ma.ah)∧fj (fun z=>w.heap.size≤z) w' rv (R.map (List.map Ma.ah))∧Cm.ar n (Cm.Gr n gs) O R∧Below w.heap.size w w':=by
 have K:=ι (Below.refl w.heap.size w);have HT:=ι hT;have uW:=ι hg;have HH:=ι (Cm.Gr.fW hg);have OK:=ι tL;have n5:=ι dx;clear hT hg tL dx
 go_enter Tryz.func100,Tryz.ntmps100
 go_upto_region 0 with fail;refine b6 ?_;have bA:=dh.new w (.int .i64 0) (.slice none 0 0) (.slice none 0 0);refine i8 (cz rfl) ?_;go_frame;have hb:=(Below.refl w.heap.size w).alloc (Nat.le_refl _) (.cells #[.int .i64 0,.slice none 0 0,.slice none 0 0] 54);generalize w.alloc (.cells #[.int .i64 0,.slice none 0 0,.slice none 0 0] 54)=w1 at *;replace HT:=ι (HT.out.below hb);replace K:=ι (Rg.acc K.out hb);clear hb;have FT:=ι bA;have K1:=ι (Below.refl w1.heap.size w1);have LZ:=(FT.out.lt);clear bA;go_upto_region 1 with fail
 refine b6<|i5 rfl<|i8 (e8 Tryz.underlying141)<|i8 (p5 (d:=((n:Nat):Int)) _ rfl rfl) ?_;go_frame
 have bA:=dh.new w1 (.int .i64 0) (.slice none 0 0) (.slice none 0 0);refine i8 (cz rfl) ?_;go_frame;have hb:=(Below.refl w1.heap.size w1).alloc (Nat.le_refl _) (.cells #[.int .i64 0,.slice none 0 0,.slice none 0 0] 54);generalize w1.alloc (.cells #[.int .i64 0,.slice none 0 0,.slice none 0 0] 54)=w2 at *;replace K1:=ι (Rg.acc K1.out hb);clear hb;have FC:=ι bA;refine Rg.aF none rfl rfl (Rg.az _ _ _ rfl _ rfl _ rfl (bC _ _ _ _ _ _ _ FC.out)) ?_;go_frame;clear bA;replace FC:=ι (FC.out.set (.int .i64 ((n:Nat):Int)) (.slice none 0 0) (.slice none 0 0));replace K1:=ι (((K1.out.setCell (p:=⟨w1.heap.size,0,none⟩) (Nat.le_refl _) (.int .i64 ((n:Nat):Int))).setCell (p:=⟨w1.heap.size,1,none⟩) (Nat.le_refl _) (.slice none 0 0)).setCell (p:=⟨w1.heap.size,2,none⟩) (Nat.le_refl _) (.slice none 0 0));generalize (((w2).setCell ⟨w1.heap.size,0,none⟩ (.int .i64 ((n:Nat):Int))).setCell ⟨w1.heap.size,1,none⟩ (.slice none 0 0)).setCell ⟨w1.heap.size,2,none⟩ (.slice none 0 0)=w5 at *
 have CH:=ι (fE.start FC.out (Nat.le_refl _));clear FC;go_upto_region 2 with fail
 refine b6<|i4 rfl ?_;go_frame
 have nz:=ι (Cm.PC.nil n (Cm.Gr n gs) (Cm.cp n tr));go_wp2
 go_loopw [4] (fun iv wr=>∃ (k:Nat) (ov rv:Value) (O:List (List Nat)) (R:List (List (List Nat))),iv=.int .i64 k∧k≤n∧Hid (fE w1.heap.size wr w1.heap.size (.int .i64 ((n:Nat):Int)) ov rv ov rv (O.map Ma.ah) (R.map (List.map Ma.ah)))∧Hid (Below w1.heap.size w1 wr)∧Hid (Cm.PC n (Cm.Gr n gs) (Cm.cp n tr) k O R)) (fun iv _=>n - (intOf iv).toNat)
 case atStart=>exact ⟨0,_,_,[],[],rfl,Nat.zero_le _,CH,K1,nz⟩
 case round =>
  clear CH K1 nz;obtain ⟨k,ov,rv,O,R,rfl,hk,CH,K1,nz⟩:=hrel;have L0:=CH.out.Ih;have L1:=CH.out.Ii;rw [List.length_map] at L0 L1;obtain ⟨gP,gQ,rfl⟩:=L0;obtain ⟨fZ,f_,rfl⟩:=L1
  by_cases bP:k<n
  ·have iH:(k:Int)<(n:Int):=by omega
   have tH:=ι (Jz tr k n);have E1:=ι (fun p=>tM (p:=p) OK.out bP);have wH:=ι (Nat.le_trans (pM tr k n) bn);obtain ⟨l,hl⟩:∃ l,Hid (nU n tr k=l):=⟨_,ι rfl⟩;replace tH:Hid (l.Pairwise (· < ·)):=ι (by rw [← hl.out]; exact tH.out);replace wH:Hid (l.length≤64):=ι (by rw [← hl.out]; exact wH.out);rw [hl.out] at E1;have E3:=ι (show 1≤l.length from List.length_pos_of_mem ((E1.out k).2 ⟨_,Cm.cP⟩));have bd:=ι bP;have je:=ι (show (∀ z,(Value.slice gP O.length gQ).ownBlock=some z→z<wr.heap.size)∧(∀ z,(Value.slice fZ R.length f_).ownBlock=some z→z<wr.heap.size)∧w1.heap.size<wr.heap.size from ⟨fun z e=>(CH.out.yB.1 z e).2,fun z e=>(CH.out.yB.2 z e).2,CH.out.j0.lt⟩);have jn:=ι (SZ.mk (Nat.le_refl wr.heap.size));go_upto_region 5 with fail
   refine b6<|i5 rfl<|i4 rfl ?_;go_frame
   have L2:=jn.out.le;refine d4 19 (aD 122 _ _ _ rfl rfl rfl (Fj _ _)) ?_;refine (qA aZ bn (HT.out.below K1.out) (fun i p u e=>g_ OK.out e) bd.out).mono ?_;rintro e1 gC ⟨v,rfl,bD,hb⟩;rw [hl.out] at bD;have hq:=iE bD.own (k:=0) (by rw [Ma.aG]; exact E3.out);rw [Ma.aG] at hq;obtain ⟨sb,sc,u0,rfl,_,_,_⟩:=hq;have wI:=ι L2;refine ⟨_,rfl,?_⟩;go_frame;replace CH:=ι (CH.out.below hb);replace jn:=ι (jn.out.below hb);replace K1:=ι (Rg.acc K1.out hb);clear hb;have R5:=ι bD;refine i5 rfl ?_;go_frame;clear bD;replace HT:=ι (HT.out.below K1.out);replace FT:=ι (FT.out.below K1.out);have K5:=ι (Below.refl gC.heap.size gC);have RP:=ι (fe.nil gC.heap.size gC);have rZ:=ι (show ∀ j,j<0→Cm.lV n (fun z=>Cm.St (Cm.Gr n gs) k z∧Cm.ap z k=l.getD j 0) (([]:List (List Nat)).getD j []) from fun j h=>absurd h (Nat.not_lt_zero _))
   go_wp2
   go_loopw [7,6] (fun iv tv wq=>∃ (m:Nat) (rs:List (List Nat)),iv=.int .i64 m∧m≤l.length∧rs.length=m∧Hid (fe gC.heap.size wq tv (rs.map Ma.ah))∧Hid (Below gC.heap.size gC wq)∧Hid (∀ j,j<m→Cm.lV n (fun z=>Cm.St (Cm.Gr n gs) k z∧Cm.ap z k=l.getD j 0) (rs.getD j []))) (fun iv _ _=>l.length - (intOf iv).toNat)
   case atStart=>exact ⟨0,[],rfl,Nat.zero_le _,rfl,RP,K5,rZ⟩
   case round =>
    clear K5 RP rZ;obtain ⟨m,rs,rfl,hm,wJ,RP,K5,rZ⟩:=hrel
    have RT:(l.length:Int)≤64:=by have:=wH.out; omega
    obtain ⟨ta,Fo,rfl⟩:=RP.out.shape
    by_cases kX:m<l.length
    ·have wm:(m:Int)<(l.length:Int):=by omega
     obtain ⟨p,hp⟩:∃ p:Nat,Hid (p=l[m]):=⟨_,ι rfl⟩
     have aN:gC.cell? ⟨sb,0+m,none⟩=some (.int .i64 ((p:Nat):Int)):=by
      obtain ⟨g,c,u,e1,e2,e3,_⟩:=iE R5.out.own (k:=m) (by rw [Ma.aG]; exact kX);simp only [Value.slice.injEq,Option.some.injEq,Addr.mk.injEq] at e1;obtain ⟨⟨rfl,_,_⟩,_,_⟩:=e1;rw [e2,← e3,hp.out];simp [Ma.ah,List.getElem?_eq_getElem kX]
     have CS:=ι (CL.mk aN (gK aN));obtain ⟨u,hu⟩:=(E1.out p).1 (by rw [hp.out]; exact List.getElem_mem kX);have HU:=ι hu;have fY:=ι kX;have nA:=ι wJ;clear aN hu wJ;go_upto_region 10 with fail
     refine b6<|i5 rfl<|i5 rfl<|i4 rfl<|i5 rfl ?_;go_frame
     refine i4 rfl<|i8 (ag aX _ _ rfl sb (0) (l.length) sc (m) rfl rfl fY.out)<|i8 (d8 (.int .i64 ((p:Nat):Int)) ⟨sb,0+m,none⟩ (af ((Below.cell (p:=⟨sb,0+m,none⟩) K5.out CS.out.lt).trans CS.out.cell))) ?_;go_frame
     have L3:=ι (fun z e=>(RP.out.lt z e).2);have L4:=ι K5.out.size;refine d4 33 (dN 123 _ _ _ _ rfl rfl rfl rfl (Si _ _)) ?_;refine (C6 aZ bn (HT.out.below K5.out) uW.out OK.out n5.out bd.out HU.out).mono ?_;rintro e1 lX ⟨yv,y,B8,rfl,VY,bD,O7,O8,hb⟩;obtain ⟨ca,cc,rfl⟩:=Rg.bY bD;have lO:=ι bD;have mM:=ι O7;have GY:=ι O8;have VZ:=ι VY;clear bD O7 O8 VY;refine ⟨_,rfl,?_⟩;go_frame;replace RP:=ι (RP.out.below hb);replace K5:=ι (Rg.acc K5.out hb);clear hb;refine i8 (Rg.aC _ _ _ rfl (.slice ca (Ma.ah y).length cc) rfl (dI lX _ ⟨_,_,_,rfl⟩)) ?_;go_frame;obtain ⟨a9,c9,X9,r1,r2,r3⟩:=RP.out.push K5.out.size lO.out (by rw [Ma.aG,GY.out.2]; omega) (fun z e=>⟨by have:=(lO.out.lt z e).1; have:=L4.out; have:=VZ.out; omega,fun e2=>by have:=(lO.out.lt z e).1; have:=L3.out z e2; have:=VZ.out; omega⟩) (by rw [List.length_map,nA.out]; have:=wH.out; have:=fY.out; omega) 22
     refine i8 (Rg.aP _ _ _ rfl rfl rfl r1)<|i5 rfl ?_;go_frame
     have K6:=ι (r3 (Nat.le_refl _) K5.out);have RU:=ι (show fe gC.heap.size X9 (.slice a9 ((rs.map Ma.ah).length+1) c9) ((rs++[y]).map Ma.ah) by rw [List.map_append]; exact r2);have RZ:=ι (Cm.LI.done HH.out bd.out ⟨n5.out.mem k p u bd.out HU.out,n5.out.rp.fx k p u (Nat.zero_le _) bd.out HU.out⟩ mM.out)
     have L5:=ι (show ∀ j,j<m+1→Cm.lV n (fun z=>Cm.St (Cm.Gr n gs) k z∧Cm.ap z k=l.getD j 0) ((rs++[y]).getD j []) from fun j hj=>by
      have hl:=nA.out
      by_cases e:j=m
      ·subst e
       have e1:(rs++[y]).getD j []=y:=by
        rw [List.getD_eq_getElem?_getD,List.getElem?_append_right (by omega),hl]; simp
       have e2:l.getD j 0=p:=by
        rw [hp.out,List.getD_eq_getElem?_getD,List.getElem?_eq_getElem fY.out]; rfl
       have e3:Cm.ap u k=p:=n5.out.rp.at_ k p u (Nat.zero_le _) bd.out HU.out;rw [e1,e2];have:=RZ.out
       rwa [e3] at this
      ·have e1:(rs++[y]).getD j []=rs.getD j []:=by
        rw [List.getD_eq_getElem?_getD,List.getD_eq_getElem?_getD,List.getElem?_append_left (by omega)]
       rw [e1]
       exact rZ.out j (by omega))
     have L6:=ι (show (rs++[y]).length=m+1 by rw [List.length_append,nA.out]; rfl);clear r1 r2 r3;go_wp2
     go_roundw
     case rel=>exact ⟨m+1,rs++[y],by go_num,fY.out,L6.out,RU,K6,L5⟩
     case measure=>simp [intOf]; have:=fY.out; omega
    ·obtain rfl:m=l.length:=by omega
     have wm:¬ (l.length:Int)<(l.length:Int):=by omega
     replace CH:=ι (CH.out.below K5.out);replace K1:=ι (Rg.acc K1.out K5.out);have R1:=jn.out.le;replace jn:=ι (jn.out.below K5.out);have L7:=R5.out.below K5.out
     have PD:=ι (wF.mk CH.out (L7.fi (by rw [Ma.aG]; omega) (G:=iJ w1.heap.size wr w1.heap.size (Value.slice gP O.length gQ) (Value.slice fZ R.length f_)) (fun z g1 g2=>⟨by have:=wI.out; have:=je.out.2.2; omega,g2,fun e=>by have:=wI.out; have:=je.out.1 z e; omega,fun e=>by have:=wI.out; have:=je.out.2.1 z e; omega,by have:=wI.out; have:=je.out.2.2; omega⟩))
      (RP.out.E0 (by rw [List.length_map,wJ]; omega) (G:=iJ w1.heap.size wr w1.heap.size (Value.slice gP O.length gQ) (Value.slice fZ R.length f_)) (fun z g1 g2=>⟨by have:=je.out.2.2; omega,g2,fun e=>by have:=je.out.1 z e; omega,fun e=>by have:=je.out.2.1 z e; omega,by have:=je.out.2.2; omega⟩)))
     have L8:=ι wJ;have wK:=ι (show (O.map Ma.ah).length<1000000 by rw [List.length_map,nz.out.iY]; omega);have L9:=ι (show (R.map (List.map Ma.ah)).length<1000000 by rw [List.length_map,nz.out.il]; omega);clear R1 L7 CH RP R5 FT wJ;go_upto_region 11 with fail;have cO:Below wr.heap.size wr wr.drew:=(Below.refl _ _).drew;replace PD:=ι (PD.out.below cO);replace K1:=ι (Rg.acc K1.out cO);replace jn:=ι (jn.out.below cO);clear cO;have aw:Below wr.heap.size wr wr.drew:=(Below.refl _ _).drew;generalize cx F wr wr.drew=F1 at *;clear aw;refine Rg.Any.begin (S:=Rg.aH 11 (fun W:World=>dh W w1.heap.size (.int .i64 ((n:Nat):Int)) (Value.slice gP O.length gQ) (Value.slice fZ R.length f_)∧Below w1.heap.size w1 W) (fun _=>True)) mix ?_;generalize wr.drew=kA at *;have hS:∀ (l:Array Bool) W,(fun W:World=>dh W w1.heap.size (.int .i64 ((n:Nat):Int)) (Value.slice gP O.length gQ) (Value.slice fZ R.length f_)∧Below w1.heap.size w1 W) W→Rg.aH 11 (fun W:World=>dh W w1.heap.size (.int .i64 ((n:Nat):Int)) (Value.slice gP O.length gQ) (Value.slice fZ R.length f_)∧Below w1.heap.size w1 W) (fun _=>True) l W:=fun l W h=>⟨.inr h,trivial⟩
     have dF:∀ (l:Array Bool) W,l.getD 11 false=true→Rg.aH 11 (fun W:World=>dh W w1.heap.size (.int .i64 ((n:Nat):Int)) (Value.slice gP O.length gQ) (Value.slice fZ R.length f_)∧Below w1.heap.size w1 W) (fun _=>True) l W:=fun l W h=>⟨.inl h,trivial⟩;have hI:(fun W:World=>dh W w1.heap.size (.int .i64 ((n:Nat):Int)) (Value.slice gP O.length gQ) (Value.slice fZ R.length f_)∧Below w1.heap.size w1 W) kA:=⟨PD.out.ch.j0,K1.out⟩
     refine c7 0 11 (.pointer (some ⟨w1.heap.size,1,none⟩)) 36 rfl rfl (g7 fun w=>aA _ rfl rfl (cq _ _)) (hS _ _ hI)<|f9 1 11 (.slice gP O.length gQ) 37 rfl rfl (g6 ⟨w1.heap.size,1,none⟩ (fun W hW=>Rg.ae _ _ Tryz.underlying51 hW.1.c1)) (hS _ _ hI)<|c8 2 11 (.slice (some ⟨sb,0,none⟩) l.length sc) 38 (hS _ _ hI)<|c7 5 11 (.pointer (some ⟨w1.heap.size,2,none⟩)) 41 rfl rfl (g7 fun w=>aA _ rfl rfl (dE _ _)) (hS _ _ hI)<|f9 6 11 (.slice fZ R.length f_) 42 rfl rfl (g6 ⟨w1.heap.size,2,none⟩ (fun W hW=>Rg.ae _ _ Tryz.underlying52 hW.1.c2)) (hS _ _ hI) ?_;go_frame
     refine c8 7 11 (.slice ta (rs.map Ma.ah).length Fo) 43 (hS _ _ hI) ?_;go_frame
     refine Rg.Any.LX (i:=3) (k:=4) (j:=8) (q:=10) (di:=39) (dk:=40) (dj:=44) (dq:=46) (vq:=.pointer (some ⟨w1.heap.size,1,none⟩)) (I:=fun W=>(fun W:World=>dh W w1.heap.size (.int .i64 ((n:Nat):Int)) (Value.slice gP O.length gQ) (Value.slice fZ R.length f_)∧Below w1.heap.size w1 W) W∧kA.heap.size≤W.heap.size) (R0:=fun W=>wF w1.heap.size W w1.heap.size (.int .i64 ((n:Nat):Int)) (Value.slice gP O.length gQ) (Value.slice fZ R.length f_) (Value.slice gP O.length gQ) (Value.slice fZ R.length f_) (O.map Ma.ah) (R.map (List.map Ma.ah)) (.slice (some ⟨sb,0,none⟩) l.length sc) (Ma.ah l) (.slice ta (rs.map Ma.ah).length Fo) (rs.map Ma.ah)) (Ri:=fun u W=>Rg.fP kA.heap.size [.slice (some ⟨sb,0,none⟩) l.length sc] u W) (Rk:=fun x W=>fE w1.heap.size W w1.heap.size (.int .i64 ((n:Nat):Int)) (Value.slice gP O.length gQ) (Value.slice fZ R.length f_) x (Value.slice fZ R.length f_) (O.map Ma.ah++[Ma.ah l]) (R.map (List.map Ma.ah))∧Rg.bs (iJ w1.heap.size W w1.heap.size x (Value.slice fZ R.length f_)) W (.slice ta (rs.map Ma.ah).length Fo) (rs.map Ma.ah)∧∃ a c,x=.slice a (O.length+1) c) (Rj:=fun v W=>Rg.fP kA.heap.size [.slice ta (rs.map Ma.ah).length Fo] v W) (fun l W h=>hS l W h.1)
      (by decide) (by decide) (by decide) (by decide) (by decide) (by decide) (by kernel_rfl) (by kernel_rfl) (by kernel_rfl) (by kernel_rfl) (by kernel_rfl) ?_ ?_
      (fun _ _ hb h=>h.below hb) (fun _ _ _ hb h=>h.below hb) (fun _ _ _ hb h=>⟨h.1.below hb,ny h.2.1 hb,h.2.2⟩) (fun _ _ _ hb h=>h.below hb) ?_ ?_ ?_ ⟨hI,Nat.le_refl _⟩ (PD.out) ?_
     ·intro u x W m hs h
      exact Rg.Any.s4 (i:=10) (t:=11) (v:=.pointer (some ⟨w1.heap.size,1,none⟩)) (some 46) rfl rfl (by kernel_rfl) (by kernel_rfl) (by kernel_rfl) (fun _ _ _ h=>h) rfl (g7 fun w=>aA _ rfl rfl (cq _ _)) hs h
     ·intro u v x W m hs h
      exact Rg.Any.s4 (i:=10) (t:=11) (v:=.pointer (some ⟨w1.heap.size,1,none⟩)) (some 46) rfl rfl (by kernel_rfl) (by kernel_rfl) (by kernel_rfl) (fun _ _ _ h=>h) rfl (g7 fun w=>aA _ rfl rfl (cq _ _)) hs h
     ·intro b hb W hW
      have nZ:Below W.heap.size W (W.alloc (.cells #[.slice (some ⟨sb,0,none⟩) l.length sc] 25)):=(Below.refl _ _).alloc (Nat.le_refl _) _
      exact Rg.kV rfl rfl (by rcases hb with rfl | ⟨u,rfl⟩ <;> rfl) (Rg.aC _ _ _ rfl (.slice (some ⟨sb,0,none⟩) l.length sc) (by rcases hb with rfl | ⟨u,rfl⟩ <;> rfl) (rO W _ ⟨_,_,_,rfl⟩)) ⟨⟨⟨hW.1.1.below nZ,Rg.acc hW.1.2 nZ⟩,by simp; have:=hW.2; omega⟩,Rg.fP.new W [.slice (some ⟨sb,0,none⟩) l.length sc] 25 hW.2,nZ⟩
     ·intro b hb W hW
      have nZ:Below W.heap.size W (W.alloc (.cells #[.slice ta (rs.map Ma.ah).length Fo] 22)):=(Below.refl _ _).alloc (Nat.le_refl _) _
      exact Rg.kV rfl rfl (by rcases hb with rfl | ⟨u,rfl⟩ | ⟨u,v,rfl⟩ <;> rfl) (Rg.aC _ _ _ rfl (.slice ta (rs.map Ma.ah).length Fo) (by rcases hb with rfl | ⟨u,rfl⟩ | ⟨u,v,rfl⟩ <;> rfl) (p6 W _ ⟨_,_,_,rfl⟩)) ⟨⟨⟨hW.1.1.below nZ,Rg.acc hW.1.2 nZ⟩,by simp; have:=hW.2; omega⟩,Rg.fP.new W [.slice ta (rs.map Ma.ah).length Fo] 22 hW.2,nZ⟩
     ·intro u b hb W hW h0 hu
      obtain ⟨pu,rfl,uX,L_,yp⟩:=hu;obtain ⟨a2,c2,X,r1,r2,r3,r4⟩:=h0.ch.nu hW.1.2.size h0.f5 rfl wK.out (yp 0 (by simp)) 51;have jH:=Rg.Kp.cH r3 (M:=fun z=>(Value.slice gP O.length gQ).ownBlock=some z) (fun _ e=>e)
      exact Rg.kV rfl rfl (by rcases hb with rfl | ⟨v,rfl⟩ <;> rfl) (Rg.aP _ _ _ rfl (by rcases hb with rfl | ⟨v,rfl⟩ <;> rfl) (by rcases hb with rfl | ⟨v,rfl⟩ <;> rfl) r1) ⟨⟨⟨r2.j0,hW.1.2.grown r3 hW.1.2.size (fun j e=>(h0.ch.yB.1 j e).1)⟩,Nat.le_trans hW.2 r3.size⟩,⟨r2,bs.mono (bs.kp h0.f6 jH (fun z g e=>g.2.2.1 e)) r4,_,_,by rw [List.length_map]⟩,fun v hv=>hv.grown r3 (fun j e=>Nat.lt_of_lt_of_le (je.out.1 j e) jn.out.le)⟩
     rintro O9 fu fx fv hb hk hj;have kd:=hb.1;have Qr:=hb.2;clear hb hI;go_frame;have FK:=ι hk;have FJ:=ι hj;obtain ⟨pj,Mb,VD,Ab,mA⟩:=FJ.out;subst Mb;obtain ⟨a2,c2,Jg⟩:=FK.out.2.2;subst Jg;obtain ⟨a3,c3,X3,q1,q2,q3⟩:=FK.out.1.LS kd.2.size FK.out.2.1 rfl L9.out (mA 0 (by simp)) 52;rw [List.length_map] at q1 q2;have lZ:=(show _∧_ from ⟨q2.j0,kd.2.grown q3 kd.2.size (fun j e=>(FK.out.1.yB.2 j e).1)⟩);refine g5 9 45 rfl rfl (Rg.aP _ _ _ rfl rfl rfl q1) (hS _ _ lZ) ?_;go_frame;have KX:=ι lZ.2;refine Rg.Any.one (i:=11) (by kernel_rfl) (Rg.Any.fl none rfl rfl rfl (Rg.az _ _ _ rfl _ rfl _ rfl (Rg.cn _ wE q2.j0.c1 q2.j0.f1)) (dF _ _ rfl) ?_);go_frame;refine c7 12 11 (.pointer (some ⟨w1.heap.size,2,none⟩)) 47 rfl rfl (g7 fun w=>aA _ rfl rfl (dE _ _)) (dF _ _ rfl) ?_;go_frame
     refine Rg.Any.one (i:=13) (by kernel_rfl) (Rg.Any.fl none rfl rfl rfl (Rg.az _ _ _ rfl _ rfl _ rfl (Rg.cn _ uA (q2.j0.Ig _).c2 (q2.j0.Ig _).f2)) (dF _ _ rfl) ?_);go_frame;refine Rg.Any.done (by kernel_rfl) ?_ _;clear dF;clear hS lZ;have yC:=q2.store (.slice a2 (O.length+1) c2) (.slice a3 (R.length+1) c3);have Mc:=(KX.out.setCell (p:=⟨w1.heap.size,1,none⟩) (Nat.le_refl _) (.slice a2 (O.length+1) c2)).setCell (p:=⟨w1.heap.size,2,none⟩) (Nat.le_refl _) (.slice a3 (R.length+1) c3);generalize (X3.setCell ⟨w1.heap.size,1,none⟩ (.slice a2 (O.length+1) c2)).setCell ⟨w1.heap.size,2,none⟩ (.slice a3 (R.length+1) c3)=dM at *;have R4:=ι (show fE w1.heap.size dM w1.heap.size (.int .i64 ((n:Nat):Int)) (.slice a2 (O.length+1) c2) (.slice a3 (R.length+1) c3) (.slice a2 (O.length+1) c2) (.slice a3 (R.length+1) c3) ((O++[l]).map Ma.ah) ((R++[rs]).map (List.map Ma.ah)) by rw [List.map_append,List.map_append]; exact yC)
     have K2:=ι Mc;have E4:=ι (nz.out.snoc tH.out (fun p=>E1.out p) L8.out rZ.out);clear yC Mc q1 q2 q3 KX FK FJ PD;go_wp2
     go_roundw
     case rel=>exact ⟨k+1,_,_,O++[l],R++[rs],by go_num,bd.out,R4,K2,E4⟩
     case measure=>simp [intOf]; have:=bd.out; omega
  ·obtain rfl:k=n:=by omega
   have iH:¬ (k:Int)<(k:Int):=by omega
   have TT:=ι (FT.out.below K1.out);go_upto_region 12 with fail
   refine b6<|i8 (Rg.nh _ _ rfl ⟨w1.heap.size,0,none⟩ rfl (nx CH.out.j0))<|Rg.aF none rfl rfl (Rg.az _ _ _ rfl _ rfl _ rfl (bC _ _ _ _ _ _ _ TT.out)) ?_;go_frame
   have lF:=Rg.Kp.trans (Rg.Kp.trans (Rg.Kp.aS (M:=fun z=>z=w.heap.size) (w:=wr) (a:=⟨w.heap.size,0,none⟩) (v:=.int .i64 ((k:Nat):Int)) rfl) (Rg.Kp.aS (M:=fun z=>z=w.heap.size) (a:=⟨w.heap.size,1,none⟩) (v:=(Value.slice gP O.length gQ)) rfl) (fun _ _ e=>e)) (Rg.Kp.aS (M:=fun z=>z=w.heap.size) (a:=⟨w.heap.size,2,none⟩) (v:=(Value.slice fZ R.length f_)) rfl) (fun _ _ e=>e);have bH:=CH.out.kp lF (fun z e=>by rw [e]; exact LZ);have jK:=TT.out.set (.int .i64 ((k:Nat):Int)) (Value.slice gP O.length gQ) (Value.slice fZ R.length f_);have gR:=((((K.out.trans (K1.out.mono K.out.size)).setCell (p:=⟨w.heap.size,0,none⟩) (Nat.le_refl _) (.int .i64 ((k:Nat):Int))).setCell (p:=⟨w.heap.size,1,none⟩) (Nat.le_refl _) (Value.slice gP O.length gQ)).setCell (p:=⟨w.heap.size,2,none⟩) (Nat.le_refl _) (Value.slice fZ R.length f_))
   have jf:=nz.out.Ct n5.out
   have Md:∀ (X:World) (c0 c1 c2 a b:Value),fE w1.heap.size X w1.heap.size c0 c1 c2 a b (O.map Ma.ah) (R.map (List.map Ma.ah))→fj (fun z=>w.heap.size≤z) X b (R.map (List.map Ma.ah)):=fun _ _ _ _ _ _ h=>by
    obtain ⟨us,h1,h2⟩:=h.VA (by rw [List.length_map,nz.out.il]; omega);exact ⟨us,h1.mono (fun z hz=>by omega),bN.mono h2 (fun z hz=>by omega)⟩
   go_wp2;exact bodyPost_ret (oQ rfl _ rfl jK) rfl ⟨_,_,rfl,O,bs.mono (bH.Vz (by rw [List.length_map,nz.out.iY]; omega)) (fun z hz=>by omega),R,Md _ _ _ _ _ _ bH,jf,gR⟩
end Go.Proofs.YtbngdgfmlmkgiaaGreat

namespace Go.Proofs.YtbngdgfmlmkgiaaGreat
open Go.RowKit
open Go.Proofs
open Go.Proofs.Ob
open Go.Proofs.Cm (Tr cE)
attribute [local irreducible] Go.Calls Go.wpList
theorem tN (args:Array Value) (w:World):(callFunc 55 args).run Tryz.prog w=.ok (.enter 55 args) w:=by kernel_rfl
theorem Sj (args:Array Value) (w:World):(callFunc 97 args).run Tryz.prog w=.ok (.enter 97 args) w:=by kernel_rfl
theorem Sl (args:Array Value) (w:World):(callFunc 99 args).run Tryz.prog w=.ok (.enter 99 args) w:=by kernel_rfl
theorem Sn (args:Array Value) (w:World):(callFunc 100 args).run Tryz.prog w=.ok (.enter 100 args) w:=by kernel_rfl
theorem fj.mono {F F':Nat→Prop} {w:World} {v:Value} {l7:List (List (List Int))} (h:fj F w v l7) (hF:∀ k,F k→F' k):fj F' w v l7:=by
 obtain ⟨us,h1,h2⟩:=h;exact ⟨us,h1.mono hF,bN.mono h2 hF⟩
def Sp (B:Nat) (w:World) (cv:Value) (n:Nat) (gs:List (List Nat)):Prop:=∃ ov rv O R,cv=.agg #[.int .i64 ((n:Nat):Int),ov,rv]∧Rg.bs (fun z=>B≤z) w ov (O.map Ma.ah)∧fj (fun z=>B≤z) w rv (R.map (List.map Ma.ah))∧Cm.ar n (Cm.Gr n (·∈gs)) O R
def dJ (B:Nat) (w:World) (d:Int) (ll:List (List Int)) (cv:Value) (c:Int):Prop:=(c≠0∧cv=jg)∨(c=0∧∃ n gs,d=((n:Nat):Int)∧ll=gs.map Ma.ah∧1≤n∧n≤64∧Sp B w cv n gs)
theorem dJ.kp {B:Nat} {M:Nat→Prop} {w w':World} {d:Int} {ll:List (List Int)} {cv:Value} {c:Int} (h:dJ B w d ll cv c) (hk:Rg.Kp M w w') (hM:∀ z,M z→z<B):dJ B w' d ll cv c:=by
 rcases h with h | ⟨h0,n,gs,h1,h2,h3,h4,ov,rv,O,R,h5,h6,h7,h8⟩
 ·exact .inl h
 ·exact .inr ⟨h0,n,gs,h1,h2,h3,h4,ov,rv,O,R,h5,bs.kp h6 hk (fun z g e=>by have:=hM z e; omega),h7.kp hk (fun z g e=>by have:=hM z e; omega),h8⟩
theorem dJ.V0 {w:World} {c:Int} (h:dJ B w d ll cv c):iL w d ll cv c:=by
 rcases h with h | ⟨h0,n,gs,h1,h2,h3,h4,ov,rv,O,R,h5,h6,h7,h8⟩
 ·exact .inl h
 ·exact .inr ⟨h0,n,gs,h1,h2,h3,h4,ov,rv,O,R,h5,bs.rows h6,h7.rows,h8⟩
theorem iL.shape {w:World} {d:Int} {ll:List (List Int)} {cv:Value} {c:Int} (h:iL w d ll cv c):∃ e a n k a' n' k',cv=.agg #[.int .i64 e,.slice a n k,.slice a' n' k']:=by
 rcases h with ⟨_,rfl⟩ | ⟨h0,n,gs,h1,h2,h3,h4,ov,rv,O,R,h5,h6,h7,h8⟩
 ·exact ⟨_,_,_,_,_,_,_,rfl⟩
 ·obtain ⟨oa,oc,rfl,_⟩:=h6.shape
  obtain ⟨ra,rc,rfl⟩:=h7.shape;exact ⟨_,_,_,_,_,_,_,h5⟩
theorem GS.kg {F F':Nat→Prop} {w w':World} {v:Value} {gs:List (List Nat)} (h:GS F w v gs) (hk:KG F w F' w'):GS F' w' v gs:=by
 obtain ⟨a,c,e,h1⟩:=h;refine ⟨a,c,e,fun h0=>?_⟩;obtain ⟨b,o,e2,h2⟩:=h1 h0;refine ⟨b,o,e2,fun k fD=>?_⟩;obtain ⟨u,h3,h4⟩:=h2 k fD;exact ⟨u,h3.kg hk,h4.kg hk⟩
theorem GS.at {w:World} {b o c:Nat} (h:GS F w (.slice (some ⟨b,o,none⟩) n c) gs) (hk:k<gs.length):∃ u,CF F w b (o+k) u∧FP F w u gs[k]:=by
 obtain ⟨a,c',e,h1⟩:=h;obtain ⟨b',o',e2,h2⟩:=h1 (by omega)
 injection e with e3 _ _
 rw [e2] at e3;simp only [Option.some.injEq,Addr.mk.injEq,and_true] at e3;obtain ⟨rfl,rfl⟩:=e3;exact h2 k hk
theorem MC (aZ:1≤n) (bn:n≤64) (w:World) :
  Calls Tryz.prog 97 #[.int .i64 ((n:Nat):Int)] w fun e w'=>∃ tb c F Rb,e=.returned (.slice (some ⟨tb,0,none⟩) n c)∧KG (fun k=>k<w.heap.size) w F w'∧bW F tb 0 n w' (fun _ _=>none) Rb (fun _ _=>.slice none 0 0)∧Below w.heap.size w w':=by
 refine (E8 aZ bn w).mono ?_;rintro e w' ⟨tb,c,F,Rb,rfl,h1,h2⟩;exact ⟨tb,c,F,Rb,rfl,h1,h2,h1.kf.below (Nat.le_refl _) (fun _ h=>h)⟩
theorem wW (gv:Value) (d:Int) (ll:List (List Int)) (w:World) (h:Rg.Rows w gv ll) :
  Calls Tryz.prog 77 #[.int .i64 d,gv] w fun e w'=>∃ cv,e=.returned (.tuple #[cv,.int .i64 (cY d ll)])∧dJ w.heap.size w' d ll cv (cY d ll)∧Below w.heap.size w w':=by
 obtain ⟨ga,gc,rfl,wX,wO,_,kz⟩:=h.shape;have G0:=ι h;have uW:=ι kz;have K:=ι (Below.refl w.heap.size w);clear h kz wX
 go_enter Tryz.func77,Tryz.ntmps77
 go_upto_region 0 with fail;refine b6 ?_;have bA:=dh.new w (.int .i64 0) (.slice none 0 0) (.slice none 0 0);refine i8 (cz rfl) ?_;go_frame;have hb:=(Below.refl w.heap.size w).alloc (Nat.le_refl _) (.cells #[.int .i64 0,.slice none 0 0,.slice none 0 0] 54);generalize w.alloc (.cells #[.int .i64 0,.slice none 0 0,.slice none 0 0] 54)=w1 at *;replace G0:=ι (G0.out.below hb);replace K:=ι (Rg.acc K.out hb);clear hb;have FT:=ι bA;refine i4 rfl ?_;go_frame;clear bA;have K1:=ι (Below.refl w1.heap.size w1);have KB:=K;clear K;have n8:=FT.out.lt
 by_cases Pf:d<1
 ·have HC:=ι (show cY d ll=2 by unfold cY; rw [if_neg (by omega)])
  go_upto_region 1 with fail
  refine b6<|i4 rfl<|i8 (d9 (.bool true) .lss (h:=aL _ d5))<|i7 rfl<|d7 13 ?_;go_frame
  refine d7 14<|i8 (f7 (.bool true)) ?_;go_frame
  have mR:=ι (FT.out.below K1.out);have KX:=ι (KB.out.trans (K1.out.mono KB.out.size));go_upto_region 2 with fail
  refine b6<|i8 (eZ rfl)<|Rg.aF none rfl rfl (Rg.az _ _ _ rfl _ rfl _ rfl (bC _ _ _ _ _ _ _ mR.out))<|i4 rfl ?_;go_frame
  have k_:=mP mR.out KX.out (Nat.le_refl _);generalize ((w1.setCell ⟨w.heap.size,0,none⟩ (.int .i64 0)).setCell ⟨w.heap.size,1,none⟩ (.slice none 0 0)).setCell ⟨w.heap.size,2,none⟩ (.slice none 0 0)=dM at *
  have ir:=ι (show ∃ cv,Ending.returned (.tuple #[jg,.int .i64 (2)])=.returned (.tuple #[cv,.int .i64 (cY d ll)])∧dJ w.heap.size dM d ll cv (cY d ll)∧Below w.heap.size w dM from
   ⟨_,by rw [HC.out],.inl ⟨by rw [HC.out]; decide,rfl⟩,k_.2⟩)
  have ke:=ι k_.1;clear k_;go_wp2;exact bodyPost_ret (bT (p:=4) (u:=5) rfl _ rfl rfl ke.out) rfl ir.out
 by_cases Pg:64<d
 ·have HC:=ι (show cY d ll=2 by unfold cY; rw [if_neg (by omega)])
  go_upto_region 1 with fail
  refine b6<|i4 rfl<|i8 (d9 (.bool false) .lss (h:=aL _ d6))<|i7 rfl<|i4 rfl ?_;go_frame
  refine i8 (d9 (.bool true) .gtr (h:=cw _ d5))<|i8 (f4 (.bool true)) ?_;go_frame
  have mR:=ι (FT.out.below K1.out);have KX:=ι (KB.out.trans (K1.out.mono KB.out.size));go_upto_region 2 with fail
  refine b6<|i8 (eZ rfl)<|Rg.aF none rfl rfl (Rg.az _ _ _ rfl _ rfl _ rfl (bC _ _ _ _ _ _ _ mR.out))<|i4 rfl ?_;go_frame
  have k_:=mP mR.out KX.out (Nat.le_refl _);generalize ((w1.setCell ⟨w.heap.size,0,none⟩ (.int .i64 0)).setCell ⟨w.heap.size,1,none⟩ (.slice none 0 0)).setCell ⟨w.heap.size,2,none⟩ (.slice none 0 0)=dM at *
  have ir:=ι (show ∃ cv,Ending.returned (.tuple #[jg,.int .i64 (2)])=.returned (.tuple #[cv,.int .i64 (cY d ll)])∧dJ w.heap.size dM d ll cv (cY d ll)∧Below w.heap.size w dM from
   ⟨_,by rw [HC.out],.inl ⟨by rw [HC.out]; decide,rfl⟩,k_.2⟩)
  have ke:=ι k_.1;clear k_;go_wp2;exact bodyPost_ret (bT (p:=4) (u:=5) rfl _ rfl rfl ke.out) rfl ir.out
 have Ph:1≤d∧d≤64:=by omega
 go_upto_region 1 with fail
 refine b6<|i4 rfl<|i8 (d9 (.bool false) .lss (h:=aL _ d6))<|i7 rfl<|i4 rfl ?_;go_frame
 refine i8 (d9 (.bool false) .gtr (h:=cw _ d6))<|i8 (f4 (.bool false)) ?_;go_frame
 by_cases Mi:4096<ll.length
 ·have HC:=ι (show cY d ll=4 by unfold cY; rw [if_pos Ph,if_neg (by omega)])
  go_upto_region 3 with fail
  refine b6<|i5 rfl<|i8 (e8 Tryz.underlying22)<|i8 (d9 (.bool true) .gtr (h:=cw _ d5)) ?_;go_frame
  have mR:=ι (FT.out.below K1.out);have KX:=ι (KB.out.trans (K1.out.mono KB.out.size));go_upto_region 4 with fail
  refine b6<|i8 (eZ rfl)<|Rg.aF none rfl rfl (Rg.az _ _ _ rfl _ rfl _ rfl (bC _ _ _ _ _ _ _ mR.out))<|i4 rfl ?_;go_frame
  have k_:=mP mR.out KX.out (Nat.le_refl _);generalize ((w1.setCell ⟨w.heap.size,0,none⟩ (.int .i64 0)).setCell ⟨w.heap.size,1,none⟩ (.slice none 0 0)).setCell ⟨w.heap.size,2,none⟩ (.slice none 0 0)=dM at *
  have ir:=ι (show ∃ cv,Ending.returned (.tuple #[jg,.int .i64 (4)])=.returned (.tuple #[cv,.int .i64 (cY d ll)])∧dJ w.heap.size dM d ll cv (cY d ll)∧Below w.heap.size w dM from
   ⟨_,by rw [HC.out],.inl ⟨by rw [HC.out]; decide,rfl⟩,k_.2⟩)
  have ke:=ι k_.1;clear k_;go_wp2;exact bodyPost_ret (bT (p:=4) (u:=5) rfl _ rfl rfl ke.out) rfl ir.out
 have Fp:=ι (show cY d ll=Ma.iR d ll by unfold cY; rw [if_pos Ph,if_pos (by omega)]);have tO:=ι (show Ma.iR d (ll.drop 0)=Ma.iR d ll by rw [List.drop_zero]);go_upto_region 3 with fail
 refine b6<|i5 rfl<|i8 (e8 Tryz.underlying22)<|i8 (d9 (.bool false) .gtr (h:=cw _ d6)) ?_;go_frame
 go_wp2
 go_loopw [6] (fun kv wr=>∃ k:Nat,kv=.int .i64 k∧k≤ll.length∧Hid (Below w1.heap.size w1 wr)∧Hid (Ma.iR d (ll.drop k)=Ma.iR d ll)) (fun kv _=>ll.length - (intOf kv).toNat)
 case atStart=>exact ⟨0,rfl,Nat.zero_le _,K1,tO⟩
 case round =>
  clear K1 tO;obtain ⟨k,rfl,hk,K1,tO⟩:=hrel
  by_cases bP:k<ll.length
  ·have iH:(k:Int)<(ll.length:Int):=by omega
   have kz:=uW.out;obtain ⟨gb,go,rfl,fR,LJ⟩:=kz (by omega);obtain ⟨u,mL,AH⟩:=LJ k bP;obtain ⟨x,hx⟩:∃ x,Hid (ll[k]=x):=⟨_,ι rfl⟩;rw [hx.out] at AH;have CU:=ι (CL.mk ((KB.out.cell (p:=⟨gb,go+k,none⟩) fR).trans mL) (Nat.lt_of_lt_of_le fR KB.out.size));have XU:=ι (Rg.Ints.below AH KB.out);obtain ⟨xa,xc,rfl,_⟩:=AH.shape;have bd:=ι bP;have qC:=XU.out.len;have C8:=ι (show x.length≤1000000000 by obtain ⟨n,a,c,e,_,e2⟩:=qC; omega);clear kz LJ mL AH qC fR;go_upto_region 8 with fail
   refine b6<|i5 rfl<|i4 rfl<|i8 (ag aE _ _ rfl gb (go) (ll.length) gc (k) rfl rfl bd.out)<|i8 (d8 (.slice xa x.length xc) ⟨gb,go+k,none⟩ (Rg.ae _ _ Tryz.underlying26 ((Below.cell (p:=⟨gb,go+k,none⟩) K1.out CU.out.lt).trans CU.out.cell))) ?_;go_frame
   refine d4 31 (aq 55 _ _ rfl rfl (tN _ _)) ?_;refine (cy _ _ wr (XU.out.below K1.out)).mono ?_;rintro e1 gC ⟨rfl,hb⟩;refine ⟨_,rfl,?_⟩;go_frame;replace K1:=ι (Rg.acc K1.out hb);clear hb;refine i4 rfl ?_;go_frame
   by_cases uX:Ma.cj x=0
   ·by_cases V6:(x.length:Int)=d
    ·skip
     go_upto_region 9 with fail
     refine b6<|i4 rfl<|i8 (d9 (.bool false) .neq (h:=ax _ d6)) ?_;go_frame
     go_upto_region 11 with fail
     refine b6<|i5 rfl<|i4 rfl<|i8 (ag aE _ _ rfl gb (go) (ll.length) gc (k) rfl rfl bd.out)<|i8 (d8 (.slice xa x.length xc) ⟨gb,go+k,none⟩ (Rg.ae _ _ Tryz.underlying26 ((Below.cell (p:=⟨gb,go+k,none⟩) K1.out CU.out.lt).trans CU.out.cell))) ?_;go_frame
     refine i8 (e8 Tryz.underlying26)<|i4 rfl<|i8 (d9 (.bool false) .neq (h:=ax _ d6)) ?_;go_frame
     have Zi:=ι (show Ma.iR d (ll.drop (k+1))=Ma.iR d ll by rw [← Ma.sU bd.out (by rw [hx.out]; exact uX) (by rw [hx.out]; exact V6)]; exact tO.out);go_wp2
     go_roundw
     case rel=>exact ⟨k+1,by go_num,bd.out,K1,Zi⟩
     case measure=>simp [intOf]; have:=bd.out; omega
    ·have HC:=ι (show cY d ll=10 by rw [Fp.out,← tO.out]; exact Ma.vJ bd.out (by rw [hx.out]; exact uX) (by rw [hx.out]; exact V6))
     go_upto_region 9 with fail
     refine b6<|i4 rfl<|i8 (d9 (.bool false) .neq (h:=ax _ d6)) ?_;go_frame
     go_upto_region 11 with fail
     refine b6<|i5 rfl<|i4 rfl<|i8 (ag aE _ _ rfl gb (go) (ll.length) gc (k) rfl rfl bd.out)<|i8 (d8 (.slice xa x.length xc) ⟨gb,go+k,none⟩ (Rg.ae _ _ Tryz.underlying26 ((Below.cell (p:=⟨gb,go+k,none⟩) K1.out CU.out.lt).trans CU.out.cell))) ?_;go_frame
     refine i8 (e8 Tryz.underlying26)<|i4 rfl<|i8 (d9 (.bool true) .neq (h:=ax _ d5)) ?_;go_frame
     have mR:=ι (FT.out.below K1.out);have KX:=ι (KB.out.trans (K1.out.mono KB.out.size));go_upto_region 12 with fail
     refine b6<|i8 (eZ rfl)<|Rg.aF none rfl rfl (Rg.az _ _ _ rfl _ rfl _ rfl (bC _ _ _ _ _ _ _ mR.out))<|i4 rfl ?_;go_frame
     have k_:=mP mR.out KX.out (Nat.le_refl _);generalize ((gC.setCell ⟨w.heap.size,0,none⟩ (.int .i64 0)).setCell ⟨w.heap.size,1,none⟩ (.slice none 0 0)).setCell ⟨w.heap.size,2,none⟩ (.slice none 0 0)=dM at *
     have ir:=ι (show ∃ cv,Ending.returned (.tuple #[jg,.int .i64 (10)])=.returned (.tuple #[cv,.int .i64 (cY d ll)])∧dJ w.heap.size dM d ll cv (cY d ll)∧Below w.heap.size w dM from
      ⟨_,by rw [HC.out],.inl ⟨by rw [HC.out]; decide,rfl⟩,k_.2⟩)
     have ke:=ι k_.1;clear k_;go_wp2;exact bodyPost_ret (bT (p:=4) (u:=5) rfl _ rfl rfl ke.out) rfl ir.out
   ·have HC:=ι (show cY d ll=Ma.cj x by rw [Fp.out,← tO.out,Ma.vI bd.out (by rw [hx.out]; exact uX),hx.out])
    go_upto_region 9 with fail
    refine b6<|i4 rfl<|i8 (d9 (.bool true) .neq (h:=ax _ d5)) ?_;go_frame
    have mR:=ι (FT.out.below K1.out);have KX:=ι (KB.out.trans (K1.out.mono KB.out.size));go_upto_region 10 with fail
    refine b6<|i8 (eZ rfl)<|i4 rfl<|Rg.aF none rfl rfl (Rg.az _ _ _ rfl _ rfl _ rfl (bC _ _ _ _ _ _ _ mR.out))<|i4 rfl ?_;go_frame
    have k_:=mP mR.out KX.out (Nat.le_refl _);generalize ((gC.setCell ⟨w.heap.size,0,none⟩ (.int .i64 0)).setCell ⟨w.heap.size,1,none⟩ (.slice none 0 0)).setCell ⟨w.heap.size,2,none⟩ (.slice none 0 0)=dM at *
    have ir:=ι (show ∃ cv,Ending.returned (.tuple #[jg,.int .i64 (Ma.cj x)])=.returned (.tuple #[cv,.int .i64 (cY d ll)])∧dJ w.heap.size dM d ll cv (cY d ll)∧Below w.heap.size w dM from
     ⟨_,by rw [HC.out],.inl ⟨by rw [HC.out]; exact uX,rfl⟩,k_.2⟩)
    have ke:=ι k_.1;clear k_;go_wp2;exact bodyPost_ret (bT (p:=4) (u:=5) rfl _ rfl rfl ke.out) rfl ir.out
  ·obtain rfl:k=ll.length:=by omega
   have iH:¬ (ll.length:Int)<(ll.length:Int):=by omega
   have hz:=tO.out;rw [Ma.vK (Nat.le_refl _)] at hz;obtain ⟨n,gs,U6,l9,cD,aZ,bn,dm⟩:=R8 Ph.1 Ph.2 hz.symm;have uY:=ι l9;have j1:=ι dm;have cW:=ι cD;have HC:=ι (show cY d ll=0 by rw [Fp.out]; exact hz.symm);subst U6;have mR:=ι (FT.out.below K1.out);have KX:=ι (KB.out.trans (K1.out.mono KB.out.size));have GR:=ι (Rg.Rows.below G0.out K1.out);clear l9 dm cD hz;have AI:=ι mR.out.lt;have Sq:=KX;have Qt:GS (fun k=>k<wr.heap.size) wr (.slice ga ll.length gc) gs:=GS.Cn (by have:=GR.out; rw [show gs.map Ma.ah=ll from uY.out.symm]; exact this);go_upto_region 13 with fail
   refine b6<|i4 rfl ?_;go_frame
   refine d4 45 (aq 97 _ _ rfl rfl (Sj _ _)) ?_;refine (MC aZ bn wr).mono ?_;rintro e1 kA ⟨tb,tc,F0,Rb,rfl,dZ,lQ,hb⟩;have GE:=ι (Qt.kg dZ);have TE:=ι lQ;have MD:=ι dZ;clear dZ lQ Qt;refine ⟨_,rfl,?_⟩;go_frame;replace mR:=ι (mR.out.below hb);replace GR:=ι (GR.out.below hb);replace KX:=ι (Rg.acc KX.out hb);clear hb;refine i5 rfl ?_;go_frame;obtain ⟨wB,V7⟩:∃ W,Hid (W=wr):=⟨_,ι rfl⟩;rw [← V7.out] at MD AI Sq;clear V7 GR;have KE:=ι (KG.refl TE.out.gB);have V8:=ι (Cm.cE.Mk (n:=n) (gs:=(·∈gs)));have qt:=ι (show ∀ a (h:a<gs.length),a<0→Cm.Sd n (Cm.cp n (fun _ _=>none)) n gs[a] from fun a _ h=>absurd h (Nat.not_lt_zero _));have V_:=j1;go_wp2
   go_loopw [9] (fun jv wr=>∃ (j:Nat) (F1:Nat→Prop) (V:Nat→Nat→Value) (tr:Tr),jv=.int .i64 j∧j≤ll.length∧Hid (bW F1 tb 0 n wr tr Rb V)∧Hid (KG F0 kA F1 wr)∧Hid (cE n (·∈gs) tr)∧Hid (∀ a (h:a<gs.length),a<j→Cm.Sd n (Cm.cp n tr) n gs[a])) (fun jv _=>ll.length - (intOf jv).toNat)
   case atStart=>exact ⟨0,_,_,_,rfl,Nat.zero_le _,TE,KE,V8,qt⟩
   case round =>
    clear TE KE V8 qt;obtain ⟨j,F,V,tr,rfl,hj,HT,KE,OK,HS⟩:=hrel
    by_cases C9:j<ll.length
    ·have Jn:(j:Int)<(ll.length:Int):=by omega
     have C_:=ι C9
     have ME:j<gs.length:=by have:=V_.out; omega
     have HJG:=ι ME
     have dS:∃ gb go,ga=some ⟨gb,go,none⟩:=by
      obtain ⟨a,c,e,h1⟩:=GE.out;obtain ⟨b,o,e2,_⟩:=h1 (by omega)
      injection e with e _ _
      exact ⟨b,o,e.trans e2⟩
     obtain ⟨gb,go,rfl⟩:=dS;obtain ⟨u,mL,AH⟩:=GE.out.at ME;obtain ⟨x,hx⟩:∃ x:List Nat,Hid (gs[j]'ME=x):=⟨_,ι rfl⟩
     replace AH:FP F0 kA u x:=by rw [← hx.out]; exact AH
     have GX:=ι (show Cm.Gd n x by rw [← hx.out]; exact cW.out _ (List.getElem_mem ME));have CM:Cm.Gr n (·∈gs) x:=.gen _ (by rw [← hx.out]; exact List.getElem_mem ME);have CU:=ι (mL.kg KE.out);have XU:=ι (AH.kg KE.out);have kr:=oX cW.out OK.out CM;clear mL AH CM;go_upto_region 17 with fail
     refine b6<|i5 rfl<|i5 rfl<|i4 rfl<|i8 (ag aE _ _ rfl gb (go) (ll.length) gc (j) rfl rfl C_.out) ?_;go_frame
     refine i8 (d8 (u) ⟨gb,go+j,none⟩ (Rg.ae _ _ Tryz.underlying26 CU.out.cell)) ?_;go_frame;refine d4 57 (aD 98 _ _ _ rfl rfl rfl (Fc _ _)) ?_;refine (oU aZ bn HT.out OK.out.rp XU.out GX.out).mono ?_;rintro e1 Zj ⟨F9,V9,rfl,my,lQ⟩;have dZ:=my.kg;refine ⟨_,rfl,?_⟩;go_frame;clear HT;clear CU;clear XU;replace KE:=ι (KE.out.trans dZ);have HT:=ι lQ;clear dZ;clear my lQ;generalize jy n tr (Cm.cS n (Cm.cp n tr) n x)=oZ at *;have wT:=ι kr.1
     have OQ:=ι (show ∀ a (h:a<gs.length),a<j+1→Cm.Sd n (Cm.cp n oZ) n gs[a] from fun a h ha=>by
      by_cases e:a=j
      ·subst e
       rw [show gs[a]=x from hx.out]; exact kr.2.2.1
      ·exact Cm.Sd.mono (fun i p u _=>kr.2.1 i p u) (HS.out a h (by omega)))
     clear kr;go_wp2
     go_roundw
     case rel=>exact ⟨j+1,_,_,_,by go_num,C_.out,HT,KE,wT,OQ⟩
     case measure=>simp [intOf]; have:=C_.out; omega
    ·obtain rfl:j=ll.length:=by omega
     have Jn:¬ (ll.length:Int)<(ll.length:Int):=by omega
     have Zk:=ι (show ∀ s,s∈gs→Cm.Sd n (Cm.cp n tr) n s from fun s hs=>by
      obtain ⟨a,ha,rfl⟩:=List.getElem_of_mem hs
      exact HS.out a ha (by have:=V_.out; omega))
     go_upto_region 18 with fail
     refine b6<|i5 rfl ?_;go_frame
     refine d4 59 (aq 99 _ _ rfl rfl (Sl _ _)) ?_;refine (CD aZ bn HT.out cW.out OK.out Zk.out).mono ?_;rintro e1 Sr ⟨F9,V9,tr9,rfl,dZ,lQ,Qu,Qv⟩;have Zl:=ι Qu;have Zm:=ι Qv;clear Qu Qv;refine ⟨_,rfl,?_⟩;go_frame;clear HT;replace KE:=ι (KE.out.trans dZ);have HT:=ι lQ;clear dZ;clear lQ;have l0:Below wB.heap.size wB Sr:=(MD.out.trans KE.out).kf.below (Nat.le_refl _) (fun _ h=>h);have kh:Below wB.heap.size wB kA:=MD.out.kf.below (Nat.le_refl _) (fun _ h=>h);have MF:=ι (show dh Sr w.heap.size (.int .i64 0) (.slice none 0 0) (.slice none 0 0) from mR.out.kp KE.out.kf (fun h=>h (MD.out.sub _ AI.out)));have KY:=ι (show Below w.heap.size w Sr from (Sq.out.trans (l0.mono Sq.out.size)));clear l0 kh mR KX KE MD;go_upto_region 19 with fail
     refine b6<|i5 rfl ?_;go_frame
     have fF:=ι MF.out.lt;refine d4 61 (aq 100 _ _ rfl rfl (Sn _ _)) ?_;refine (C7 aZ bn HT.out cW.out Zl.out Zm.out).mono ?_;rintro e1 Wa ⟨ov,rv,O,R,rfl,hO,hR,Cw,hb⟩;have R7:=ι (Nat.lt_of_lt_of_le fF.out hb.size);obtain ⟨oa,oc,rfl,_⟩:=hO.rows.shape;obtain ⟨ra,rc,rfl⟩:=hR.rows.shape;have HO:=ι hO;have HR:=ι hR;have cN:=ι Cw;clear hO hR Cw;refine ⟨_,rfl,?_⟩;go_frame;replace MF:=ι (MF.out.below hb);replace HT:=ι (HT.out.below hb);replace KY:=ι (Rg.acc KY.out hb);clear hb
     refine Rg.aF none rfl rfl (Rg.az _ _ _ rfl _ rfl _ rfl (bC _ _ _ _ _ _ _ MF.out))<|i4 rfl ?_;go_frame
     have jK:=MF.out.set (.int .i64 ((n:Nat):Int)) (.slice oa (O.map Ma.ah).length oc) (.slice ra (R.map (List.map Ma.ah)).length rc);have lF:=Rg.Kp.trans (Rg.Kp.trans (Rg.Kp.aS (M:=fun z=>z=w.heap.size) (w:=Wa) (a:=⟨w.heap.size,0,none⟩) (v:=.int .i64 ((n:Nat):Int)) rfl) (Rg.Kp.aS (M:=fun z=>z=w.heap.size) (a:=⟨w.heap.size,1,none⟩) (v:=(.slice oa (O.map Ma.ah).length oc)) rfl) (fun _ _ e=>e)) (Rg.Kp.aS (M:=fun z=>z=w.heap.size) (a:=⟨w.heap.size,2,none⟩) (v:=(.slice ra (R.map (List.map Ma.ah)).length rc)) rfl) (fun _ _ e=>e);have hro:=bs.mono (F':=fun z=>w.heap.size≤z) (bs.kp HO.out lF (fun z g e=>by have:=fF.out; omega)) (fun z hz=>by have:=fF.out; omega);have Mh:=(HR.out.kp lF (fun z g e=>by have:=fF.out; omega)).mono (F':=fun z=>w.heap.size≤z) (fun z hz=>by have:=fF.out; omega)
     have gR:=((KY.out.setCell (p:=⟨w.heap.size,0,none⟩) (Nat.le_refl _) (.int .i64 ((n:Nat):Int))).setCell (p:=⟨w.heap.size,1,none⟩) (Nat.le_refl _) (.slice oa (O.map Ma.ah).length oc)).setCell (p:=⟨w.heap.size,2,none⟩) (Nat.le_refl _) (.slice ra (R.map (List.map Ma.ah)).length rc);generalize ((Wa.setCell ⟨w.heap.size,0,none⟩ (.int .i64 ((n:Nat):Int))).setCell ⟨w.heap.size,1,none⟩ (.slice oa (O.map Ma.ah).length oc)).setCell ⟨w.heap.size,2,none⟩ (.slice ra (R.map (List.map Ma.ah)).length rc)=dM at *;have ke:=ι jK
     have ir:=ι (show ∃ cv,Ending.returned (.tuple #[.agg #[.int .i64 ((n:Nat):Int),(.slice oa (O.map Ma.ah).length oc),(.slice ra (R.map (List.map Ma.ah)).length rc)],.int .i64 0])=.returned (.tuple #[cv,.int .i64 (cY ((n:Nat):Int) ll)])∧dJ w.heap.size dM ((n:Nat):Int) ll cv (cY ((n:Nat):Int) ll)∧Below w.heap.size w dM from
      ⟨_,by rw [HC.out],.inr ⟨HC.out,n,gs,rfl,uY.out,aZ,bn,_,_,O,R,rfl,hro,Mh,cN.out⟩,gR⟩)
     clear jK lF hro Mh gR;go_wp2;exact bodyPost_ret (bT (p:=4) (u:=5) rfl _ rfl rfl ke.out) rfl ir.out

theorem MG (args:Array Value) (w:World):(callFunc 54 args).run Tryz.prog w=.ok (.enter 54 args) w:=by kernel_rfl
theorem MH (args:Array Value) (w:World):(callFunc 77 args).run Tryz.prog w=.ok (.enter 77 args) w:=by kernel_rfl
theorem Wb (h:Ma.bJ d ll=0):1≤d∧d≤64∧cY d ll=0:=by
 by_cases h1:1≤d∧d≤64
 ·by_cases h2:ll.length≤16
  ·rw [Ma.vL h1.1 h1.2 h2] at h
   refine ⟨h1.1,h1.2,?_⟩;unfold cY;rw [if_pos h1,if_pos (by omega)];exact h
  ·rw [Ma.p9 h1.1 h1.2 h2] at h; cases h
 ·rw [Ma.jT h1] at h; cases h
end Go.Proofs.YtbngdgfmlmkgiaaGreat

namespace Go.Proofs.YtbngdgfmlmkgiaaGreat
open Go.RowKit
open Go.Proofs
open Go.Proofs.Ob
attribute [local irreducible] Go.Calls Go.wpList
theorem jL {o:Oper} {a:Act} {w:World} (F:FuncId) (x y f:Operand) (th:Array TypeId) (ho:o.op=.call { callee:=.value f,args:=#[x,y],argTypes:=th }) (hf:a.eval f=.func (.func F) #[] #[]) (hx:a.eval x=u1) (hy:a.eval y=u2)
  (hF:(callFunc F #[u1,u2]).run Tryz.prog w=.ok (.enter F #[u1,u2]) w):(execOp a.eval o).run Tryz.prog w=.ok (.enter F #[u1,u2]) w:=by
 unfold execOp;simp [ho,hx,hy,hf,resolve,invoke,Deferred.ofValue,hF]
def wY (F:FuncId) (w0:World) (us vs:List Value) (p:Nat→Bool):Prop:=∀ i (h:i<us.length) (h2:i<vs.length) (W:World),Below w0.heap.size w0 W→Calls Tryz.prog F #[us[i],vs[i]] W fun e W'=>e=.returned (.bool (p i))∧Below W.heap.size W W'
def ji (m n:Nat) (p:Nat→Bool):Bool:=m == n && (List.range m).all p
theorem qD {p:Nat→Bool} (h:m≠n):ji m n p=false:=by unfold ji; simp [h]
theorem qE {p:Nat→Bool} (h:(List.range m).all p=true):ji m m p=true:=by unfold ji; simp [h]
theorem tP {p:Nat→Bool} (hk:k<m) (h:p k=false):ji m m p=false:=by
 unfold ji;rw [Bool.and_eq_false_iff]
 right
 rw [List.all_eq_false];exact ⟨k,List.mem_range.2 hk,by simp [h]⟩
theorem ld {p:Nat→Bool} (h:(List.range k).all p=true) (h2:p k=true):(List.range (k+1)).all p=true:=by
 rw [List.range_succ,List.all_append];simp [h,h2]
theorem Fq {p:Nat→Bool}:ji m n p=true↔m=n∧∀ i,i<m→p i=true:=by
 unfold ji;simp
theorem wZ {α:Type} [DecidableEq α] {l m:List α} {p:Nat→Bool} (h:∀ i (h1:i<l.length) (h2:i<m.length),p i=decide (l[i]=m[i])):ji l.length m.length p=decide (l=m):=by
 rw [Bool.eq_iff_iff,Fq,decide_eq_true_iff]
 constructor
 ·rintro ⟨h1,h2⟩
  refine List.ext_getElem h1 fun i a b=>?_;have:=h2 i a;rw [h i a b] at this;exact of_decide_eq_true this
 ·rintro rfl
  exact ⟨rfl,fun i hi=>by rw [h i hi hi]; simp⟩
theorem AJ {va vb:Value} {us:List Value} {w:World} (h1:Rg.cu w va us) (h2:Rg.cu w vb vs) (F:FuncId) (hF:∀ args W,(callFunc F args).run Tryz.prog W=.ok (.enter F args) W) {p:Nat→Bool} (hp:wY F w us vs p) :
  Calls Tryz.prog 112 #[va,vb,.func (.func F) #[] #[]] w fun e w'=>e=.returned (.bool (ji us.length vs.length p))∧Below w.heap.size w w':=by
 obtain ⟨ad,cap,rfl,_,_,Fs,aN⟩:=h1;obtain ⟨Er,mB,rfl,_,_,se,dr⟩:=h2;unfold Rg.na at Fs se;have Hc:=ι aN;have AK:=ι dr;have HP:=ι hp;have K:=ι (Below.refl w.heap.size w);clear aN dr hp
 go_enter Tryz.func112,Tryz.ntmps112
 by_cases hne:us.length=vs.length
 ·have Da:(us.length:Int)=(vs.length:Int):=by omega
  have lH:=ι hne;go_upto_region 1 with fail
  refine b6<|i5 rfl<|i8 (e8 Tryz.underlying51)<|i5 rfl<|i8 (e8 Tryz.underlying51) ?_;go_frame
  refine i8 (d9 (.bool false) .neq (h:=ax _ d6)) ?_;go_frame;have HA:=ι (show (List.range 0).all p=true from rfl);go_wp2
  go_loopw [17] (fun kv wr=>∃ k:Nat,kv=.int .i64 k∧k≤us.length∧Hid ((List.range k).all p=true)∧Hid (Below w.heap.size w wr)) (fun kv _=>us.length - (intOf kv).toNat)
  case atStart=>exact ⟨0,rfl,Nat.zero_le _,HA,K⟩
  case round =>
   clear HA K;obtain ⟨k,rfl,hk,HA,K⟩:=hrel
   by_cases bP:k<us.length
   ·have iH:(k:Int)<(us.length:Int):=by omega
    have jx:k<vs.length:=by omega
    have bd:=ι bP;have uE:=ι jx;obtain ⟨b,o,rfl,hb,hc⟩:=Hc.out (by omega);obtain ⟨b2,o2,rfl,df,iX⟩:=AK.out (by omega);obtain ⟨x,hx⟩:∃ x:Value,Hid (us[k]'bP=x):=⟨_,ι rfl⟩;obtain ⟨y,hy⟩:∃ y:Value,Hid (vs[k]'jx=y):=⟨_,ι rfl⟩;have CX:=ι (CL.mk (show w.cell? ⟨b,o+k,none⟩=some x by rw [← hx.out]; exact hc k bP) hb);have CY:=ι (CL.mk (show w.cell? ⟨b2,o2+k,none⟩=some y by rw [← hy.out]; exact iX k jx) df);have jz:=HP.out k bP jx wr K.out;rw [show us[k]=x from hx.out,show vs[k]=y from hy.out] at jz;have HK:=ι jz;clear hc iX jz hb df
    cases dR:p k with
    | true =>
     have Wc:=ι dR;rw [dR] at HK;have tH:=ι (ld HA.out dR);clear dR;go_upto_region 5 with fail
     refine b6<|i4 rfl<|i8 (ag bF _ _ rfl b (o) (us.length) cap (k) rfl rfl bd.out)<|i8 (d8 (x) ⟨b,o+k,none⟩ (Rg.ae _ _ Tryz.underlying25 ((Below.cell (p:=⟨b,o+k,none⟩) K.out CX.out.lt).trans CX.out.cell)))<|i4 rfl ?_;go_frame
     refine i3 (x) rfl ?_;go_frame;go_upto_region 6 with fail
     refine b6<|i5 rfl<|i4 rfl<|i8 (ag bF _ _ rfl b2 (o2) (vs.length) mB (k) rfl rfl uE.out)<|i8 (d8 (y) ⟨b2,o2+k,none⟩ (Rg.ae _ _ Tryz.underlying25 ((Below.cell (p:=⟨b2,o2+k,none⟩) K.out CY.out.lt).trans CY.out.cell))) ?_;go_frame
     refine i3 (y) rfl ?_;go_frame;go_upto_region 7 with fail
     refine b6<|i3 (.func (.func F) #[] #[]) rfl<|i3 (x) rfl<|i3 (y) rfl ?_;go_frame
     refine d4 29 (jL F _ _ _ _ rfl rfl rfl rfl (hF _ _)) ?_;refine (HK.out).mono ?_;rintro e1 gC ⟨rfl,hb⟩;refine ⟨_,rfl,?_⟩;go_frame;replace K:=ι (Rg.acc K.out hb);clear hb;refine i8 (bE _ _ true rfl rfl) ?_;go_frame;go_wp2
     go_roundw
     case rel=>exact ⟨k+1,by go_num,bd.out,tH,K⟩
     case measure=>simp [intOf]; have:=bd.out; omega
    | false =>
     rw [dR] at HK;have HR:=ι (tP bP dR);clear dR;go_upto_region 5 with fail
     refine b6<|i4 rfl<|i8 (ag bF _ _ rfl b (o) (us.length) cap (k) rfl rfl bd.out)<|i8 (d8 (x) ⟨b,o+k,none⟩ (Rg.ae _ _ Tryz.underlying25 ((Below.cell (p:=⟨b,o+k,none⟩) K.out CX.out.lt).trans CX.out.cell)))<|i4 rfl ?_;go_frame
     refine i3 (x) rfl ?_;go_frame;go_upto_region 6 with fail
     refine b6<|i5 rfl<|i4 rfl<|i8 (ag bF _ _ rfl b2 (o2) (vs.length) mB (k) rfl rfl uE.out)<|i8 (d8 (y) ⟨b2,o2+k,none⟩ (Rg.ae _ _ Tryz.underlying25 ((Below.cell (p:=⟨b2,o2+k,none⟩) K.out CY.out.lt).trans CY.out.cell))) ?_;go_frame
     refine i3 (y) rfl ?_;go_frame;go_upto_region 7 with fail
     refine b6<|i3 (.func (.func F) #[] #[]) rfl<|i3 (x) rfl<|i3 (y) rfl ?_;go_frame
     refine d4 29 (jL F _ _ _ _ rfl rfl rfl rfl (hF _ _)) ?_;refine (HK.out).mono ?_;rintro e1 gC ⟨rfl,hb⟩;refine ⟨_,rfl,?_⟩;go_frame;replace K:=ι (Rg.acc K.out hb);clear hb;refine i8 (bE _ _ false rfl rfl) ?_;go_frame;go_wp2;go_ret;exact ⟨by rw [← lH.out,HR.out]; rfl,K.out⟩
   ·obtain rfl:k=us.length:=by omega
    have iH:¬ (us.length:Int)<(us.length:Int):=by omega
    have HR:=ι (qE HA.out);go_wp2;go_ret;exact ⟨by rw [← lH.out,HR.out]; rfl,K.out⟩
 ·have Da:¬ (us.length:Int)=(vs.length:Int):=by omega
  have HR:=ι (qD (p:=p) hne);go_upto_region 1 with fail
  refine b6<|i5 rfl<|i8 (e8 Tryz.underlying51)<|i5 rfl<|i8 (e8 Tryz.underlying51) ?_;go_frame
  refine i8 (d9 (.bool true) .neq (h:=ax _ d5)) ?_;go_frame;go_wp2;go_ret;exact ⟨by rw [HR.out]; rfl,K.out⟩
theorem AL {va vb:Value} {us:List Value} {w:World} (h1:Rg.cu w va us) (h2:Rg.cu w vb vs) (F:FuncId) (hF:∀ args W,(callFunc F args).run Tryz.prog W=.ok (.enter F args) W) {p:Nat→Bool} (hp:wY F w us vs p) :
  Calls Tryz.prog 114 #[va,vb,.func (.func F) #[] #[]] w fun e w'=>e=.returned (.bool (ji us.length vs.length p))∧Below w.heap.size w w':=by
 obtain ⟨ad,cap,rfl,_,_,Fs,aN⟩:=h1;obtain ⟨Er,mB,rfl,_,_,se,dr⟩:=h2;unfold Rg.na at Fs se;have Hc:=ι aN;have AK:=ι dr;have HP:=ι hp;have K:=ι (Below.refl w.heap.size w);clear aN dr hp
 go_enter Tryz.func114,Tryz.ntmps114
 by_cases hne:us.length=vs.length
 ·have Da:(us.length:Int)=(vs.length:Int):=by omega
  have lH:=ι hne;go_upto_region 1 with fail
  refine b6<|i5 rfl<|i8 (e8 Tryz.underlying52)<|i5 rfl<|i8 (e8 Tryz.underlying52) ?_;go_frame
  refine i8 (d9 (.bool false) .neq (h:=ax _ d6)) ?_;go_frame;have HA:=ι (show (List.range 0).all p=true from rfl);go_wp2
  go_loopw [17] (fun kv wr=>∃ k:Nat,kv=.int .i64 k∧k≤us.length∧Hid ((List.range k).all p=true)∧Hid (Below w.heap.size w wr)) (fun kv _=>us.length - (intOf kv).toNat)
  case atStart=>exact ⟨0,rfl,Nat.zero_le _,HA,K⟩
  case round =>
   clear HA K;obtain ⟨k,rfl,hk,HA,K⟩:=hrel
   by_cases bP:k<us.length
   ·have iH:(k:Int)<(us.length:Int):=by omega
    have jx:k<vs.length:=by omega
    have bd:=ι bP;have uE:=ι jx;obtain ⟨b,o,rfl,hb,hc⟩:=Hc.out (by omega);obtain ⟨b2,o2,rfl,df,iX⟩:=AK.out (by omega);obtain ⟨x,hx⟩:∃ x:Value,Hid (us[k]'bP=x):=⟨_,ι rfl⟩;obtain ⟨y,hy⟩:∃ y:Value,Hid (vs[k]'jx=y):=⟨_,ι rfl⟩;have CX:=ι (CL.mk (show w.cell? ⟨b,o+k,none⟩=some x by rw [← hx.out]; exact hc k bP) hb);have CY:=ι (CL.mk (show w.cell? ⟨b2,o2+k,none⟩=some y by rw [← hy.out]; exact iX k jx) df);have jz:=HP.out k bP jx wr K.out;rw [show us[k]=x from hx.out,show vs[k]=y from hy.out] at jz;have HK:=ι jz;clear hc iX jz hb df
    cases dR:p k with
    | true =>
     have Wc:=ι dR;rw [dR] at HK;have tH:=ι (ld HA.out dR);clear dR;go_upto_region 5 with fail
     refine b6<|i4 rfl<|i8 (ag bV _ _ rfl b (o) (us.length) cap (k) rfl rfl bd.out)<|i8 (d8 (x) ⟨b,o+k,none⟩ (Rg.ae _ _ Tryz.underlying22 ((Below.cell (p:=⟨b,o+k,none⟩) K.out CX.out.lt).trans CX.out.cell)))<|i4 rfl ?_;go_frame
     refine i3 (x) rfl ?_;go_frame;go_upto_region 6 with fail
     refine b6<|i5 rfl<|i4 rfl<|i8 (ag bV _ _ rfl b2 (o2) (vs.length) mB (k) rfl rfl uE.out)<|i8 (d8 (y) ⟨b2,o2+k,none⟩ (Rg.ae _ _ Tryz.underlying22 ((Below.cell (p:=⟨b2,o2+k,none⟩) K.out CY.out.lt).trans CY.out.cell))) ?_;go_frame
     refine i3 (y) rfl ?_;go_frame;go_upto_region 7 with fail
     refine b6<|i3 (.func (.func F) #[] #[]) rfl<|i3 (x) rfl<|i3 (y) rfl ?_;go_frame
     refine d4 29 (jL F _ _ _ _ rfl rfl rfl rfl (hF _ _)) ?_;refine (HK.out).mono ?_;rintro e1 gC ⟨rfl,hb⟩;refine ⟨_,rfl,?_⟩;go_frame;replace K:=ι (Rg.acc K.out hb);clear hb;refine i8 (bE _ _ true rfl rfl) ?_;go_frame;go_wp2
     go_roundw
     case rel=>exact ⟨k+1,by go_num,bd.out,tH,K⟩
     case measure=>simp [intOf]; have:=bd.out; omega
    | false =>
     rw [dR] at HK;have HR:=ι (tP bP dR);clear dR;go_upto_region 5 with fail
     refine b6<|i4 rfl<|i8 (ag bV _ _ rfl b (o) (us.length) cap (k) rfl rfl bd.out)<|i8 (d8 (x) ⟨b,o+k,none⟩ (Rg.ae _ _ Tryz.underlying22 ((Below.cell (p:=⟨b,o+k,none⟩) K.out CX.out.lt).trans CX.out.cell)))<|i4 rfl ?_;go_frame
     refine i3 (x) rfl ?_;go_frame;go_upto_region 6 with fail
     refine b6<|i5 rfl<|i4 rfl<|i8 (ag bV _ _ rfl b2 (o2) (vs.length) mB (k) rfl rfl uE.out)<|i8 (d8 (y) ⟨b2,o2+k,none⟩ (Rg.ae _ _ Tryz.underlying22 ((Below.cell (p:=⟨b2,o2+k,none⟩) K.out CY.out.lt).trans CY.out.cell))) ?_;go_frame
     refine i3 (y) rfl ?_;go_frame;go_upto_region 7 with fail
     refine b6<|i3 (.func (.func F) #[] #[]) rfl<|i3 (x) rfl<|i3 (y) rfl ?_;go_frame
     refine d4 29 (jL F _ _ _ _ rfl rfl rfl rfl (hF _ _)) ?_;refine (HK.out).mono ?_;rintro e1 gC ⟨rfl,hb⟩;refine ⟨_,rfl,?_⟩;go_frame;replace K:=ι (Rg.acc K.out hb);clear hb;refine i8 (bE _ _ false rfl rfl) ?_;go_frame;go_wp2;go_ret;exact ⟨by rw [← lH.out,HR.out]; rfl,K.out⟩
   ·obtain rfl:k=us.length:=by omega
    have iH:¬ (us.length:Int)<(us.length:Int):=by omega
    have HR:=ι (qE HA.out);go_wp2;go_ret;exact ⟨by rw [← lH.out,HR.out]; rfl,K.out⟩
 ·have Da:¬ (us.length:Int)=(vs.length:Int):=by omega
  have HR:=ι (qD (p:=p) hne);go_upto_region 1 with fail
  refine b6<|i5 rfl<|i8 (e8 Tryz.underlying52)<|i5 rfl<|i8 (e8 Tryz.underlying52) ?_;go_frame
  refine i8 (d9 (.bool true) .neq (h:=ax _ d5)) ?_;go_frame;go_wp2;go_ret;exact ⟨by rw [HR.out]; rfl,K.out⟩
theorem AM {va vb:Value} {us:List Value} {w:World} (h1:Rg.cu w va us) (h2:Rg.cu w vb vs) (F:FuncId) (hF:∀ args W,(callFunc F args).run Tryz.prog W=.ok (.enter F args) W) {p:Nat→Bool} (hp:wY F w us vs p) :
  Calls Tryz.prog 116 #[va,vb,.func (.func F) #[] #[]] w fun e w'=>e=.returned (.bool (ji us.length vs.length p))∧Below w.heap.size w w':=by
 obtain ⟨ad,cap,rfl,_,_,Fs,aN⟩:=h1;obtain ⟨Er,mB,rfl,_,_,se,dr⟩:=h2;unfold Rg.na at Fs se;have Hc:=ι aN;have AK:=ι dr;have HP:=ι hp;have K:=ι (Below.refl w.heap.size w);clear aN dr hp
 go_enter Tryz.func116,Tryz.ntmps116
 by_cases hne:us.length=vs.length
 ·have Da:(us.length:Int)=(vs.length:Int):=by omega
  have lH:=ι hne;go_upto_region 1 with fail
  refine b6<|i5 rfl<|i8 (e8 Tryz.underlying22)<|i5 rfl<|i8 (e8 Tryz.underlying22) ?_;go_frame
  refine i8 (d9 (.bool false) .neq (h:=ax _ d6)) ?_;go_frame;have HA:=ι (show (List.range 0).all p=true from rfl);go_wp2
  go_loopw [17] (fun kv wr=>∃ k:Nat,kv=.int .i64 k∧k≤us.length∧Hid ((List.range k).all p=true)∧Hid (Below w.heap.size w wr)) (fun kv _=>us.length - (intOf kv).toNat)
  case atStart=>exact ⟨0,rfl,Nat.zero_le _,HA,K⟩
  case round =>
   clear HA K;obtain ⟨k,rfl,hk,HA,K⟩:=hrel
   by_cases bP:k<us.length
   ·have iH:(k:Int)<(us.length:Int):=by omega
    have jx:k<vs.length:=by omega
    have bd:=ι bP;have uE:=ι jx;obtain ⟨b,o,rfl,hb,hc⟩:=Hc.out (by omega);obtain ⟨b2,o2,rfl,df,iX⟩:=AK.out (by omega);obtain ⟨x,hx⟩:∃ x:Value,Hid (us[k]'bP=x):=⟨_,ι rfl⟩;obtain ⟨y,hy⟩:∃ y:Value,Hid (vs[k]'jx=y):=⟨_,ι rfl⟩;have CX:=ι (CL.mk (show w.cell? ⟨b,o+k,none⟩=some x by rw [← hx.out]; exact hc k bP) hb);have CY:=ι (CL.mk (show w.cell? ⟨b2,o2+k,none⟩=some y by rw [← hy.out]; exact iX k jx) df);have jz:=HP.out k bP jx wr K.out;rw [show us[k]=x from hx.out,show vs[k]=y from hy.out] at jz;have HK:=ι jz;clear hc iX jz hb df
    cases dR:p k with
    | true =>
     have Wc:=ι dR;rw [dR] at HK;have tH:=ι (ld HA.out dR);clear dR;go_upto_region 5 with fail
     refine b6<|i4 rfl<|i8 (ag aE _ _ rfl b (o) (us.length) cap (k) rfl rfl bd.out)<|i8 (d8 (x) ⟨b,o+k,none⟩ (Rg.ae _ _ Tryz.underlying26 ((Below.cell (p:=⟨b,o+k,none⟩) K.out CX.out.lt).trans CX.out.cell)))<|i4 rfl ?_;go_frame
     refine i3 (x) rfl ?_;go_frame;go_upto_region 6 with fail
     refine b6<|i5 rfl<|i4 rfl<|i8 (ag aE _ _ rfl b2 (o2) (vs.length) mB (k) rfl rfl uE.out)<|i8 (d8 (y) ⟨b2,o2+k,none⟩ (Rg.ae _ _ Tryz.underlying26 ((Below.cell (p:=⟨b2,o2+k,none⟩) K.out CY.out.lt).trans CY.out.cell))) ?_;go_frame
     refine i3 (y) rfl ?_;go_frame;go_upto_region 7 with fail
     refine b6<|i3 (.func (.func F) #[] #[]) rfl<|i3 (x) rfl<|i3 (y) rfl ?_;go_frame
     refine d4 29 (jL F _ _ _ _ rfl rfl rfl rfl (hF _ _)) ?_;refine (HK.out).mono ?_;rintro e1 gC ⟨rfl,hb⟩;refine ⟨_,rfl,?_⟩;go_frame;replace K:=ι (Rg.acc K.out hb);clear hb;refine i8 (bE _ _ true rfl rfl) ?_;go_frame;go_wp2
     go_roundw
     case rel=>exact ⟨k+1,by go_num,bd.out,tH,K⟩
     case measure=>simp [intOf]; have:=bd.out; omega
    | false =>
     rw [dR] at HK;have HR:=ι (tP bP dR);clear dR;go_upto_region 5 with fail
     refine b6<|i4 rfl<|i8 (ag aE _ _ rfl b (o) (us.length) cap (k) rfl rfl bd.out)<|i8 (d8 (x) ⟨b,o+k,none⟩ (Rg.ae _ _ Tryz.underlying26 ((Below.cell (p:=⟨b,o+k,none⟩) K.out CX.out.lt).trans CX.out.cell)))<|i4 rfl ?_;go_frame
     refine i3 (x) rfl ?_;go_frame;go_upto_region 6 with fail
     refine b6<|i5 rfl<|i4 rfl<|i8 (ag aE _ _ rfl b2 (o2) (vs.length) mB (k) rfl rfl uE.out)<|i8 (d8 (y) ⟨b2,o2+k,none⟩ (Rg.ae _ _ Tryz.underlying26 ((Below.cell (p:=⟨b2,o2+k,none⟩) K.out CY.out.lt).trans CY.out.cell))) ?_;go_frame
     refine i3 (y) rfl ?_;go_frame;go_upto_region 7 with fail
     refine b6<|i3 (.func (.func F) #[] #[]) rfl<|i3 (x) rfl<|i3 (y) rfl ?_;go_frame
     refine d4 29 (jL F _ _ _ _ rfl rfl rfl rfl (hF _ _)) ?_;refine (HK.out).mono ?_;rintro e1 gC ⟨rfl,hb⟩;refine ⟨_,rfl,?_⟩;go_frame;replace K:=ι (Rg.acc K.out hb);clear hb;refine i8 (bE _ _ false rfl rfl) ?_;go_frame;go_wp2;go_ret;exact ⟨by rw [← lH.out,HR.out]; rfl,K.out⟩
   ·obtain rfl:k=us.length:=by omega
    have iH:¬ (us.length:Int)<(us.length:Int):=by omega
    have HR:=ι (qE HA.out);go_wp2;go_ret;exact ⟨by rw [← lH.out,HR.out]; rfl,K.out⟩
 ·have Da:¬ (us.length:Int)=(vs.length:Int):=by omega
  have HR:=ι (qD (p:=p) hne);go_upto_region 1 with fail
  refine b6<|i5 rfl<|i8 (e8 Tryz.underlying22)<|i5 rfl<|i8 (e8 Tryz.underlying22) ?_;go_frame
  refine i8 (d9 (.bool true) .neq (h:=ax _ d5)) ?_;go_frame;go_wp2;go_ret;exact ⟨by rw [HR.out]; rfl,K.out⟩

theorem Ss (args:Array Value) (w:World):(callFunc 118 args).run Tryz.prog w=.ok (.enter 118 args) w:=by kernel_rfl
theorem Su (args:Array Value) (w:World):(callFunc 116 args).run Tryz.prog w=.ok (.enter 116 args) w:=by kernel_rfl
theorem MI (args:Array Value) (w:World):(callFunc 112 args).run Tryz.prog w=.ok (.enter 112 args) w:=by kernel_rfl
theorem Sv (args:Array Value) (w:World):(callFunc 114 args).run Tryz.prog w=.ok (.enter 114 args) w:=by kernel_rfl
theorem Db (v1 v2:Value) (l1 l2:List Int) (w:World) (h:Rg.Ints w v1 l1) (h':Rg.Ints w v2 l2)  :
  Calls Tryz.prog 113 #[v1,v2] w fun e w'=>e=.returned (.bool (decide (l1=l2)))∧Below w.heap.size w w':=by
 have hl:l1.length≤1000000000:=by obtain ⟨n,a,c,e,_,e2⟩:=h.len; omega
 obtain ⟨ad,cap,rfl,_,Fs,_,aN⟩:=h.shape;obtain ⟨Er,mB,rfl,_,se,_,dr⟩:=h'.shape;have Hc:=ι aN;have AK:=ι dr;clear aN h dr h'
 by_cases hne:l1.length=l2.length
 ·rw [← hne]
  rw [← hne] at se;have lH:=ι hne;clear hne
  go_enter Tryz.func113,Tryz.ntmps113
  go_wp2
  go_loopw [13] (fun i wr=>∃ k:Nat,k≤l1.length∧i=.int .i64 k∧Hid (l1.take k=l2.take k)∧Hid (Below w.heap.size w wr)) (fun i _=>l1.length - (intOf i).toNat)
  case atStart=>exact ⟨0,by omega,rfl,ι (by simp),ι (Below.refl _ _)⟩
  case round =>
   obtain ⟨k,hk,rfl,hs,bR⟩:=hrel
   by_cases aJ:k<l1.length
   ·have kN:k<l2.length:=by have:=lH.out; omega
    obtain ⟨b,o,rfl,hb,hc⟩:=Hc.out (by omega);obtain ⟨b2,o2,rfl,df,iX⟩:=AK.out (by omega);have c0:=(bR.out.cell (p:=⟨b,o+k,none⟩) hb).trans (hc k aJ);have c2:=(bR.out.cell (p:=⟨b2,o2+k,none⟩) df).trans (iX k kN);obtain ⟨x,hx⟩:∃ x,Hid (x=l1[k]):=⟨_,ι rfl⟩;obtain ⟨y,hy⟩:∃ y,Hid (y=l2[k]):=⟨_,ι rfl⟩;rw [← hx.out] at c0;rw [← hy.out] at c2
    have bP:(k:Int)<(l1.length:Int):=by omega
    clear hc hb iX df
    by_cases he:x=y
    ·have e1:(x != y)=false:=by simp [he]
     have HE:=ι he;go_upto_region 6 with fail
     go_quiet (fail)
     have nv:=ι (Rg.drewN bR.out nq);generalize wr.drewN nq=wq at *;go_wp2
     go_roundw
     case rel =>
      refine ⟨k+1,by omega,by go_num,ι ?_,nv⟩;rw [List.take_succ_eq_append_getElem aJ,List.take_succ_eq_append_getElem kN,hs.out,← hx.out,← hy.out,HE.out]
     case measure=>simp [intOf]; omega
    ·have e1:(x != y)=true:=by simp [he]
     have hm:decide (l1=l2)=false:=by
      rw [decide_eq_false_iff_not];intro e;subst e;exact he (hx.out.trans hy.out.symm)
     have HM:=ι hm;clear hm;go_upto_region 6 with fail
     go_quiet (fail)
     have nv:=ι (Rg.drewN bR.out nq);generalize wr.drewN nq=wq at *;go_wp2;go_ret;exact ⟨by rw [HM.out]; rfl,nv.out⟩
   ·obtain rfl:k=l1.length:=by omega
    have hm:decide (l1=l2)=true:=by
     rw [decide_eq_true_iff];have:=hs.out
     rwa [List.take_length,lH.out,List.take_length] at this
    have HM:=ι hm;clear hm;go_wp2;go_ret;exact ⟨by rw [HM.out]; rfl,bR.out⟩
 ·have hb:((l1.length:Int) != (l2.length:Int))=true:=by rw [bne_iff_ne]; omega
  have hm:decide (l1=l2)=false:=by
   rw [decide_eq_false_iff_not];intro e;subst e;exact hne rfl
  have HM:=ι hm;have lH:=ι hne;clear hm hne
  go_enter Tryz.func113,Tryz.ntmps113
  go_wp2;go_ret;exact ⟨by rw [HM.out]; rfl,Below.refl _ _⟩
theorem AO (v1 v2:Value) (l1 l2:List Int) (w:World) (h:Rg.Ints w v1 l1) (h':Rg.Ints w v2 l2)  :
  Calls Tryz.prog 118 #[v1,v2] w fun e w'=>e=.returned (.bool (decide (l1=l2)))∧Below w.heap.size w w':=by
 have hl:l1.length≤1000000000:=by obtain ⟨n,a,c,e,_,e2⟩:=h.len; omega
 obtain ⟨ad,cap,rfl,_,Fs,_,aN⟩:=h.shape;obtain ⟨Er,mB,rfl,_,se,_,dr⟩:=h'.shape;have Hc:=ι aN;have AK:=ι dr;clear aN h dr h'
 by_cases hne:l1.length=l2.length
 ·rw [← hne]
  rw [← hne] at se;have lH:=ι hne;clear hne
  go_enter Tryz.func118,Tryz.ntmps118
  go_wp2
  go_loopw [13] (fun i wr=>∃ k:Nat,k≤l1.length∧i=.int .i64 k∧Hid (l1.take k=l2.take k)∧Hid (Below w.heap.size w wr)) (fun i _=>l1.length - (intOf i).toNat)
  case atStart=>exact ⟨0,by omega,rfl,ι (by simp),ι (Below.refl _ _)⟩
  case round =>
   obtain ⟨k,hk,rfl,hs,bR⟩:=hrel
   by_cases aJ:k<l1.length
   ·have kN:k<l2.length:=by have:=lH.out; omega
    obtain ⟨b,o,rfl,hb,hc⟩:=Hc.out (by omega);obtain ⟨b2,o2,rfl,df,iX⟩:=AK.out (by omega);have c0:=(bR.out.cell (p:=⟨b,o+k,none⟩) hb).trans (hc k aJ);have c2:=(bR.out.cell (p:=⟨b2,o2+k,none⟩) df).trans (iX k kN);obtain ⟨x,hx⟩:∃ x,Hid (x=l1[k]):=⟨_,ι rfl⟩;obtain ⟨y,hy⟩:∃ y,Hid (y=l2[k]):=⟨_,ι rfl⟩;rw [← hx.out] at c0;rw [← hy.out] at c2
    have bP:(k:Int)<(l1.length:Int):=by omega
    clear hc hb iX df
    by_cases he:x=y
    ·have e1:(x != y)=false:=by simp [he]
     have HE:=ι he;go_upto_region 6 with fail
     go_quiet (fail)
     have nv:=ι (Rg.drewN bR.out nq);generalize wr.drewN nq=wq at *;go_wp2
     go_roundw
     case rel =>
      refine ⟨k+1,by omega,by go_num,ι ?_,nv⟩;rw [List.take_succ_eq_append_getElem aJ,List.take_succ_eq_append_getElem kN,hs.out,← hx.out,← hy.out,HE.out]
     case measure=>simp [intOf]; omega
    ·have e1:(x != y)=true:=by simp [he]
     have hm:decide (l1=l2)=false:=by
      rw [decide_eq_false_iff_not];intro e;subst e;exact he (hx.out.trans hy.out.symm)
     have HM:=ι hm;clear hm;go_upto_region 6 with fail
     go_quiet (fail)
     have nv:=ι (Rg.drewN bR.out nq);generalize wr.drewN nq=wq at *;go_wp2;go_ret;exact ⟨by rw [HM.out]; rfl,nv.out⟩
   ·obtain rfl:k=l1.length:=by omega
    have hm:decide (l1=l2)=true:=by
     rw [decide_eq_true_iff];have:=hs.out
     rwa [List.take_length,lH.out,List.take_length] at this
    have HM:=ι hm;clear hm;go_wp2;go_ret;exact ⟨by rw [HM.out]; rfl,bR.out⟩
 ·have hb:((l1.length:Int) != (l2.length:Int))=true:=by rw [bne_iff_ne]; omega
  have hm:decide (l1=l2)=false:=by
   rw [decide_eq_false_iff_not];intro e;subst e;exact hne rfl
  have HM:=ι hm;have lH:=ι hne;clear hm hne
  go_enter Tryz.func118,Tryz.ntmps118
  go_wp2;go_ret;exact ⟨by rw [HM.out]; rfl,Below.refl _ _⟩
theorem Dc {F:FuncId} {w:World} {va vb:Value} {A B:List (List Int)} (h1:Rg.Rows w va A) (h2:Rg.Rows w vb B)
  (hF:∀ (v1 v2:Value) (l1 l2:List Int) (W:World),Rg.Ints W v1 l1→Rg.Ints W v2 l2→Calls Tryz.prog F #[v1,v2] W fun e w'=>e=.returned (.bool (decide (l1=l2)))∧Below W.heap.size W w') :
  ∃ us vs,Rg.cu w va us∧Rg.cu w vb vs∧us.length=A.length∧vs.length=B.length∧wY F w us vs (fun i=>decide (A.getD i []=B.getD i [])):=by
 obtain ⟨us,a1,a2,a3⟩:=h1;obtain ⟨vs,b1,b2,b3⟩:=h2;refine ⟨us,vs,a1,b1,a2,b2,fun i hi hj W hb=>?_⟩
 have e1:A.getD i []=A[i]'(by omega):=by rw [List.getD_eq_getElem?_getD,List.getElem?_eq_getElem (by omega)]; rfl
 have e2:B.getD i []=B[i]'(by omega):=by rw [List.getD_eq_getElem?_getD,List.getElem?_eq_getElem (by omega)]; rfl
 dsimp only
 rw [e1,e2];exact hF _ _ _ _ W ((a3 i hi (by omega)).below hb) ((b3 i hj (by omega)).below hb)
theorem Iq {A B:List (List Int)}:ji A.length B.length (fun i=>decide (A.getD i []=B.getD i []))=decide (A=B) :=
 wZ fun i h1 h2=>by
  have e1:A.getD i []=A[i]:=by rw [List.getD_eq_getElem?_getD,List.getElem?_eq_getElem h1]; rfl
  have e2:B.getD i []=B[i]:=by rw [List.getD_eq_getElem?_getD,List.getElem?_eq_getElem h2]; rfl
  rw [e1,e2]
theorem JA {F:FuncId} {w:World} {va vb:Value} {A B:List (List (List Int))} (h1:fL w va A) (h2:fL w vb B)
  (hF:∀ (v1 v2:Value) (l1 l2:List (List Int)) (W:World),Rg.Rows W v1 l1→Rg.Rows W v2 l2→Calls Tryz.prog F #[v1,v2] W fun e w'=>e=.returned (.bool (decide (l1=l2)))∧Below W.heap.size W w') :
  ∃ us vs,Rg.cu w va us∧Rg.cu w vb vs∧us.length=A.length∧vs.length=B.length∧wY F w us vs (fun i=>decide (A.getD i []=B.getD i [])):=by
 obtain ⟨us,a1,a2,a3⟩:=h1;obtain ⟨vs,b1,b2,b3⟩:=h2;refine ⟨us,vs,a1,b1,a2,b2,fun i hi hj W hb=>?_⟩
 have e1:A.getD i []=A[i]'(by omega):=by rw [List.getD_eq_getElem?_getD,List.getElem?_eq_getElem (by omega)]; rfl
 have e2:B.getD i []=B[i]'(by omega):=by rw [List.getD_eq_getElem?_getD,List.getElem?_eq_getElem (by omega)]; rfl
 dsimp only
 rw [e1,e2];exact hF _ _ _ _ W ((a3 i hi (by omega)).below hb) ((b3 i hj (by omega)).below hb)
theorem MJ {A B:List (List (List Int))}:ji A.length B.length (fun i=>decide (A.getD i []=B.getD i []))=decide (A=B) :=
 wZ fun i h1 h2=>by
  have e1:A.getD i []=A[i]:=by rw [List.getD_eq_getElem?_getD,List.getElem?_eq_getElem h1]; rfl
  have e2:B.getD i []=B[i]:=by rw [List.getD_eq_getElem?_getD,List.getElem?_eq_getElem h2]; rfl
  rw [e1,e2]
theorem Sw (args:Array Value) (w:World):(callFunc 113 args).run Tryz.prog w=.ok (.enter 113 args) w:=by kernel_rfl
theorem We (args:Array Value) (w:World):(callFunc 115 args).run Tryz.prog w=.ok (.enter 115 args) w:=by kernel_rfl
theorem Sx (args:Array Value) (w:World):(callFunc 117 args).run Tryz.prog w=.ok (.enter 117 args) w:=by kernel_rfl
theorem Dd (v1 v2:Value) (l1 l2:List Int) (w:World) (h1:Rg.Ints w v1 l1) (h2:Rg.Ints w v2 l2) :
  Calls Tryz.prog 117 #[v1,v2] w fun e w'=>e=.returned (.bool (decide (l1=l2)))∧Below w.heap.size w w':=by
 have H1:=ι h1;have H2:=ι h2;have K:=ι (Below.refl w.heap.size w);clear h1 h2;obtain ⟨b,dG⟩:∃ b,Hid (decide (l1=l2)=b):=⟨_,ι rfl⟩
 go_enter Tryz.func117,Tryz.ntmps117
 go_upto_region 1 with fail
 refine b6<|i3 (v1) rfl<|i3 (v2) rfl ?_;go_frame
 refine d4 7 (aD 118 _ _ _ rfl rfl rfl (Ss _ _)) ?_;refine (show Calls _ _ _ _ (fun e w'=>e=.returned (.bool b)∧Below w.heap.size w w') by rw [← dG.out]; exact AO _ _ _ _ w H1.out H2.out).mono ?_;rintro e1 w1 ⟨rfl,hb⟩;refine ⟨_,rfl,?_⟩;go_frame;replace H1:=ι (H1.out.below hb);replace H2:=ι (H2.out.below hb);replace K:=ι (Rg.acc K.out hb);clear hb;refine i7 rfl ?_;go_frame;go_wp2;go_ret;exact ⟨by rw [dG.out]; rfl,K.out⟩
theorem Ft (v1 v2:Value) (l1 l2:List (List Int)) (w:World) (h1:Rg.Rows w v1 l1) (h2:Rg.Rows w v2 l2) :
  Calls Tryz.prog 115 #[v1,v2] w fun e w'=>e=.returned (.bool (decide (l1=l2)))∧Below w.heap.size w w':=by
 obtain ⟨us,vs,hu,hv,e1,e2,jz⟩:=Dc h1 h2 (F:=117) Dd;have HC:=ι (AM hu hv _ Sx jz);rw [e1,e2,Iq] at HC;have K:=ι (Below.refl w.heap.size w);clear h1 h2 hu hv e1 e2 jz;obtain ⟨b,dG⟩:∃ b,Hid (decide (l1=l2)=b):=⟨_,ι rfl⟩;rw [dG.out] at HC ⊢
 go_enter Tryz.func115,Tryz.ntmps115
 go_upto_region 1 with fail
 refine b6<|i3 (v1) rfl<|i3 (v2) rfl ?_;go_frame
 refine d4 7 (dN 116 _ _ _ _ rfl rfl rfl rfl (Su _ _)) ?_;refine (HC.out).mono ?_;rintro e1 w1 ⟨rfl,hb⟩;refine ⟨_,rfl,?_⟩;go_frame;replace K:=ι (Rg.acc K.out hb);clear hb;refine i7 rfl ?_;go_frame;go_wp2;go_ret;exact ⟨rfl,K.out⟩
theorem o0 (v1 v2:Value) (A B:List (List Int)) (w:World) (h1:Rg.Rows w v1 A) (h2:Rg.Rows w v2 B) {b:Bool} (hb:Hid (decide (A=B)=b)) :
  Calls Tryz.prog 112 #[v1,v2,.func (.func 113) #[] #[]] w fun e w'=>e=.returned (.bool b)∧Below w.heap.size w w':=by
 obtain ⟨us,vs,hu,hv,e1,e2,jz⟩:=Dc h1 h2 (F:=113) Db;have HC:=AJ hu hv _ Sw jz;rw [e1,e2,Iq,hb.out] at HC;exact HC
theorem w_ (v1 v2:Value) (A B:List (List (List Int))) (w:World) (h1:fL w v1 A) (h2:fL w v2 B) {b:Bool} (hb:Hid (decide (A=B)=b)) :
  Calls Tryz.prog 114 #[v1,v2,.func (.func 115) #[] #[]] w fun e w'=>e=.returned (.bool b)∧Below w.heap.size w w':=by
 obtain ⟨us,vs,hu,hv,e1,e2,jz⟩:=JA h1 h2 (F:=115) Ft;have HC:=AL hu hv _ We jz;rw [e1,e2,MJ,hb.out] at HC;exact HC
theorem jA (w:World) (x y z:Value):CL (w.alloc (.cells #[x,y,z] 54)) w.heap.size 0 x∧CL (w.alloc (.cells #[x,y,z] 54)) w.heap.size 1 y∧CL (w.alloc (.cells #[x,y,z] 54)) w.heap.size 2 z :=
 ⟨⟨by rw [Rg.aM]; rfl,by simp⟩,⟨by rw [Rg.aM]; rfl,by simp⟩,⟨by rw [Rg.aM]; rfl,by simp⟩⟩
def bZ (w:World) (ov rv:Value) (OO:List (List Int)) (RR:List (List (List Int))):Prop:=Rg.Rows w ov OO∧fL w rv RR
theorem bZ.below {w w':World} {ov rv:Value} {OO:List (List Int)} {RR:List (List (List Int))} (h:bZ w ov rv OO RR) (hb:Below w.heap.size w w'):bZ w' ov rv OO RR:=⟨h.1.below hb,h.2.below hb⟩
theorem De {n m:Int} {r7 tJ:Value} {mS:List (List Int)} {iu:List (List (List Int))} {w:World} (h1:bZ w ov rv OO RR) (h2:bZ w r7 tJ mS iu) :
  Calls Tryz.prog 90 #[.agg #[.int .i64 n,ov,rv],.agg #[.int .i64 m,r7,tJ]] w fun e w'=>e=.returned (.bool (decide (n=m∧OO=mS∧RR=iu)))∧Below w.heap.size w w':=by
 have H1:=ι h1;have H2:=ι h2;have K:=ι (Below.refl w.heap.size w);clear h1 h2
 go_enter Tryz.func90,Tryz.ntmps90
 go_upto_region 0 with fail;refine b6 ?_;have bG:=jA w (.int .i64 n) ov rv;refine i8 (Rg.ba _ _ rfl rfl) ?_;go_frame;have hb:Below w.heap.size w (w.alloc (.cells #[.int .i64 n,ov,rv] 54)):=(Below.refl _ _).alloc (Nat.le_refl _) _;generalize w.alloc (.cells #[.int .i64 n,ov,rv] 54)=w1 at *;replace H1:=ι (H1.out.below hb);replace H2:=ι (H2.out.below hb);replace K:=ι (Rg.acc K.out hb);clear hb;have A0:=ι bG.1;have A1:=ι bG.2.1;have A2:=ι bG.2.2;clear bG;have bG:=jA w1 (.int .i64 m) r7 tJ;refine i8 (Rg.ba _ _ rfl rfl) ?_;go_frame;have hb:Below w1.heap.size w1 (w1.alloc (.cells #[.int .i64 m,r7,tJ] 54)):=(Below.refl _ _).alloc (Nat.le_refl _) _;generalize w1.alloc (.cells #[.int .i64 m,r7,tJ] 54)=w2 at *;replace H1:=ι (H1.out.below hb);replace H2:=ι (H2.out.below hb);replace A0:=ι (A0.out.below hb);replace A1:=ι (A1.out.below hb)
 replace A2:=ι (A2.out.below hb);replace K:=ι (Rg.acc K.out hb);clear hb;have B0:=ι bG.1;have B1:=ι bG.2.1;have B2:=ι bG.2.2;clear bG;refine i7 rfl ?_;go_frame
 by_cases ML:n=m
 ·obtain ⟨b1,cV⟩:∃ b,Hid (decide (OO=mS)=b):=⟨_,ι rfl⟩
  obtain ⟨b2,df⟩:∃ b,Hid (decide (RR=iu)=b):=⟨_,ι rfl⟩;have HE:=ι (show decide (n=m∧OO=mS∧RR=iu)=(b1 && b2) by rw [← cV.out,← df.out]; simp [ML])
  cases b1 with
  | true =>
   go_upto_region 1 with fail
   refine b6<|i8 (g8 (dD _ _))<|i8 (d8 (.int .i64 n) ⟨w.heap.size,0,none⟩ (af A0.out.cell))<|i8 (g8 (dD _ _))<|i8 (d8 (.int .i64 m) ⟨w1.heap.size,0,none⟩ (af B0.out.cell)) ?_;go_frame
   refine i8 (d9 (.bool true) .eql (h:=cJ _ (decide_eq_true ML)))<|i7 rfl<|i8 (g8 (cq _ _))<|i8 (d8 (ov) ⟨w.heap.size,1,none⟩ (Rg.ae _ _ Tryz.underlying51 A1.out.cell))<|i8 (g8 (cq _ _)) ?_;go_frame
   refine i8 (d8 (r7) ⟨w1.heap.size,1,none⟩ (Rg.ae _ _ Tryz.underlying51 B1.out.cell)) ?_;go_frame;refine dB (some 15) rfl rfl _ _ (dN 112 _ _ _ _ rfl rfl rfl rfl (MI _ _)) ?_;refine (o0 _ _ _ _ w2 H1.out.1 H2.out.1 cV).mono ?_;rintro e1 w3 ⟨rfl,hb⟩;refine ⟨_,rfl,?_⟩;go_frame;replace H1:=ι (H1.out.below hb);replace H2:=ι (H2.out.below hb);replace A0:=ι (A0.out.below hb);replace A1:=ι (A1.out.below hb);replace A2:=ι (A2.out.below hb);replace B0:=ι (B0.out.below hb);replace B1:=ι (B1.out.below hb);replace B2:=ι (B2.out.below hb);replace K:=ι (Rg.acc K.out hb);clear hb
   refine i8 (f7 (.bool true))<|i7 rfl<|i8 (g8 (dE _ _))<|i8 (d8 (rv) ⟨w.heap.size,2,none⟩ (Rg.ae _ _ Tryz.underlying52 A2.out.cell))<|i8 (g8 (dE _ _)) ?_;go_frame
   refine i8 (d8 (tJ) ⟨w1.heap.size,2,none⟩ (Rg.ae _ _ Tryz.underlying52 B2.out.cell)) ?_;go_frame;refine dB (some 22) rfl rfl _ _ (dN 114 _ _ _ _ rfl rfl rfl rfl (Sv _ _)) ?_;refine (w_ _ _ _ _ w3 H1.out.2 H2.out.2 df).mono ?_;rintro e1 w4 ⟨rfl,hb⟩;refine ⟨_,rfl,?_⟩;go_frame;replace H1:=ι (H1.out.below hb);replace H2:=ι (H2.out.below hb);replace A0:=ι (A0.out.below hb);replace A1:=ι (A1.out.below hb);replace A2:=ι (A2.out.below hb);replace B0:=ι (B0.out.below hb);replace B1:=ι (B1.out.below hb);replace B2:=ι (B2.out.below hb);replace K:=ι (Rg.acc K.out hb);clear hb
   refine i8 (f7 (.bool b2))<|i7 rfl ?_;go_frame
   go_wp2;go_ret;exact ⟨by rw [HE.out]; rfl,K.out⟩
  | false =>
   go_upto_region 1 with fail
   refine b6<|i8 (g8 (dD _ _))<|i8 (d8 (.int .i64 n) ⟨w.heap.size,0,none⟩ (af A0.out.cell))<|i8 (g8 (dD _ _))<|i8 (d8 (.int .i64 m) ⟨w1.heap.size,0,none⟩ (af B0.out.cell)) ?_;go_frame
   refine i8 (d9 (.bool true) .eql (h:=cJ _ (decide_eq_true ML)))<|i7 rfl<|i8 (g8 (cq _ _))<|i8 (d8 (ov) ⟨w.heap.size,1,none⟩ (Rg.ae _ _ Tryz.underlying51 A1.out.cell))<|i8 (g8 (cq _ _)) ?_;go_frame
   refine i8 (d8 (r7) ⟨w1.heap.size,1,none⟩ (Rg.ae _ _ Tryz.underlying51 B1.out.cell)) ?_;go_frame;refine dB (some 15) rfl rfl _ _ (dN 112 _ _ _ _ rfl rfl rfl rfl (MI _ _)) ?_;refine (o0 _ _ _ _ w2 H1.out.1 H2.out.1 cV).mono ?_;rintro e1 w3 ⟨rfl,hb⟩;refine ⟨_,rfl,?_⟩;go_frame;replace H1:=ι (H1.out.below hb);replace H2:=ι (H2.out.below hb);replace A0:=ι (A0.out.below hb);replace A1:=ι (A1.out.below hb);replace A2:=ι (A2.out.below hb);replace B0:=ι (B0.out.below hb);replace B1:=ι (B1.out.below hb);replace B2:=ι (B2.out.below hb);replace K:=ι (Rg.acc K.out hb);clear hb
   refine i8 (f7 (.bool false))<|i7 rfl<|d7 18<|d7 19<|d7 20 ?_;go_frame
   refine d7 21<|d7 22<|i8 (f4 (.bool false))<|i7 rfl ?_;go_frame
   go_wp2;go_ret;exact ⟨by rw [HE.out]; rfl,K.out⟩
 ·have HE:=ι (show decide (n=m∧OO=mS∧RR=iu)=false by simp [ML])
  go_upto_region 1 with fail
  refine b6<|i8 (g8 (dD _ _))<|i8 (d8 (.int .i64 n) ⟨w.heap.size,0,none⟩ (af A0.out.cell))<|i8 (g8 (dD _ _))<|i8 (d8 (.int .i64 m) ⟨w1.heap.size,0,none⟩ (af B0.out.cell)) ?_;go_frame
  refine i8 (d9 (.bool false) .eql (h:=cJ _ (decide_eq_false ML)))<|i7 rfl<|d7 11<|d7 12<|d7 13 ?_;go_frame
  refine d7 14<|d7 15<|i8 (f4 (.bool false))<|i7 rfl<|d7 18 ?_;go_frame
  refine d7 19<|d7 20<|d7 21<|d7 22<|i8 (f4 (.bool false)) ?_;go_frame
  refine i7 rfl ?_;go_frame;go_wp2;go_ret;exact ⟨by rw [HE.out]; rfl,K.out⟩
end Go.Proofs.YtbngdgfmlmkgiaaGreat

namespace Go.Proofs.Rg
open Go Go.RowKit
theorem aU {l:Nat} {P:Program} {ops:Array Oper} {rest:List Oper} {o:Oper} {a:Act} {w:World} {Q:Exit→Act→World→Prop} {v:Value} (d:Option Tmp) (hg:o.guard=none) (hd:o.dst=d) (pR:∀ c,o.op≠.defer c)
  (hr:(execOp a.eval o).run P w=.ok (.value v) w') (h:wpListIn (Fence.wide.inRound l) n P ops Q rest (a.put d v) w'):wpListIn (Fence.wide.inRound l) n P ops Q (o :: rest) a w:=by
 subst hd;refine wpListIn_plain hg fun K hK=>⟨fun _ _=>trivial,?_⟩;rw [Oper.semAt_eq _ _ _ pR,hr];exact hK _ _ h
theorem o5 {l:Nat} {P:Program} {ops:Array Oper} {rest:List Oper} {o:Oper} {a:Act} {w:World} {Q:Exit→Act→World→Prop} (d:Option Tmp) (hg:o.guard=none) (hd:o.dst=d) (pR:∀ c,o.op≠.defer c)
  (hr:(execOp a.eval o).run P w=.ok .skip w') (h:wpListIn (Fence.wide.inRound l) n P ops Q rest (a.put d undef) w'):wpListIn (Fence.wide.inRound l) n P ops Q (o :: rest) a w:=by
 subst hd;refine wpListIn_plain hg fun K hK=>⟨fun _ _=>trivial,?_⟩;rw [Oper.semAt_eq _ _ _ pR,hr];exact hK _ _ h
theorem dW {l:Nat} {P:Program} {ops:Array Oper} {rest:List Oper} {o:Oper} {a:Act} {w:World} {Q:Exit→Act→World→Prop} {v:Value} (d:Option Tmp) (hw:Region.wanted o (yielded ops a.tmps)=true) (hd:o.dst=d) (pR:∀ c,o.op≠.defer c)
  (hr:(execOp a.eval o).run P w=.ok (.value v) w') (h:wpListIn (Fence.wide.inRound l) n P ops Q rest (a.put d v) w'):wpListIn (Fence.wide.inRound l) n P ops Q (o :: rest) a w:=by
 subst hd;refine wpListIn_step fun K hK=>?_;rw [if_pos hw];refine ⟨fun _ _=>trivial,?_⟩;rw [Oper.semAt_eq _ _ _ pR,hr];exact hK _ _ h
theorem Df {l:Nat} {P:Program} {ops:Array Oper} {rest:List Oper} {o:Oper} {a:Act} {w:World} {Q:Exit→Act→World→Prop} (d:Option Tmp) (hw:Region.wanted o (yielded ops a.tmps)=true) (hd:o.dst=d) (pR:∀ c,o.op≠.defer c) (f:FuncId) (args:Array Value)
  (hr:(execOp a.eval o).run P w=.ok (.enter f args) w) (h:Calls P f args w fun e w'=>∃ v,e=.returned v∧wpListIn (Fence.wide.inRound l) n P ops Q rest (a.put d v) w'):wpListIn (Fence.wide.inRound l) n P ops Q (o :: rest) a w:=by
 subst hd;refine wpListIn_step fun K hK=>?_;rw [if_pos hw];refine ⟨fun _ _=>trivial,?_⟩;rw [Oper.semAt_eq _ _ _ pR,hr];refine ⟨(fun hh=>by cases hh),(CallsIn.inRound l (callsIn_wide.2 h)).mono ?_⟩;rintro e w' ⟨v,rfl,hv⟩;exact hK _ _ hv
theorem hJ {l:Nat} {P:Program} {ops:Array Oper} {rest:List Oper} {o:Oper} {a:Act} {w:World} {Q:Exit→Act→World→Prop} (d:Option Tmp) (hw:Region.wanted o (yielded ops a.tmps)=false) (hd:o.dst=d)
  (h:wpListIn (Fence.wide.inRound l) n P ops Q rest (a.put d undef) w):wpListIn (Fence.wide.inRound l) n P ops Q (o :: rest) a w:=by
 subst hd;unfold wpListIn;rw [if_neg (by rw [hw]; decide)];exact ⟨fun _ _=>trivial,h⟩
def MM (Q:Exit→Act→World→Prop):Exit→Act→World→Prop
 | .normal,a,w=>Q .normal a w
 | _,_,_=>False
theorem JB {P:Program} {c:Code} {Q:Exit→Act→World→Prop} {a:Act} {w:World} (h:c.wp P (MM Q) a w):c.wp P Q a w :=
 wp_mono h fun e a w hq=>by cases e <;> first | exact hq | exact hq.elim
theorem MN {Q:Exit→Act→World→Prop} {a:Act} {w:World} (h:Q .normal a w):MM Q .normal a w:=h
end Go.Proofs.Rg

namespace Go.Proofs.YtbngdgfmlmkgiaaGreat
open Go.RowKit
open Go.Proofs
open Go.Shelf
attribute [local go_sem] Oper.semAt_some
def jk (m k:Nat):List (Fin m):=(List.finRange m).take k
theorem uF (h:k<m):jk m (k+1)=jk m k++[⟨k,h⟩]:=by
 unfold jk;rw [List.take_succ_eq_append_getElem (by rw [List.length_finRange]; exact h)];simp
theorem xd (h:k≤m):(jk m k).length=k:=by
 unfold jk;rw [List.length_take,List.length_finRange];omega
theorem Fu (m:Nat):jk m m=List.finRange m:=by
 unfold jk;rw [List.take_of_length_le (by rw [List.length_finRange]; exact Nat.le_refl _)]
theorem JC (F:Fence) (n:Nat) (h7:F.fn 111) (hro:F.round=none) (hn:1≤n) (l Bs n₀ m cap:Nat) (ad:Option Addr) (RV:Nat→Value) (hm:m≤1000000000) (MO:0<m→∃ b off,ad=some ⟨b,off,none⟩∧b<n₀) (J Jx:List (Fin m)→World→Prop)
  (hY:∀ pre x W,J pre W→pre.length<m→YieldAt F (n - 1) Tryz.prog l #[.int .i64 ((x.1:Nat):Int),RV x.1] W fun e W' =>
   (e=.returned (.bool true)∧J (pre++[x]) W'∧Below n₀ W W')∨(e=.returned (.bool false)∧Jx (pre++[x]) W'))
  (W:World) (wD:W.cell? ⟨Bs,2,none⟩=some (.slice ad m cap)) (hc:∀ b off,ad=some ⟨b,off,none⟩→∀ j,j<m→W.cell? ⟨b,off+j,none⟩=some (RV j)) (h0:J [] W) :
  CallsIn F n Tryz.prog 111 #[.func (.yield l) #[] #[],.pointer (some ⟨Bs,0,none⟩)] W fun e W'=>(∃ v,e=.returned v) ∧
   ((∃ ys,ys=jk m m∧J ys W')∨(∃ pre,(∃ k,k≤m∧pre=jk m k)∧Jx pre W')):=by
 refine callsIn_of_wp Tryz.func111 rfl h7 ?_ hro;simp only [Tryz.ntmps111,List.size_toArray,List.length_cons,List.length_nil,Nat.reduceAdd,Nat.reduceSub,Array.replicate_succ,Array.replicate_zero,List.push_toArray,List.append_toArray,List.nil_append,List.cons_append]
 gi_wp2
 gi_loopw [8] (fun i wr=>∃ k:Nat,k≤m∧i=.int .i64 k∧J (jk m k) wr∧Below n₀ W wr)
  (fun i _=>m - (intOf i).toNat)
 case atStart=>exact ⟨0,Nat.zero_le _,rfl,h0,Below.refl _ _⟩
 case round =>
  obtain ⟨k,hk,rfl,LN,LO⟩:=hrel
  by_cases aJ:k<m
  ·obtain ⟨b,off,rfl,hb⟩:=MO (by omega)
   have Vu:wr.cell? ⟨b,off+k,none⟩=some (RV k):=(LO.cell (p:=⟨b,off+k,none⟩) hb).trans (hc b off rfl k aJ);obtain ⟨fn,tmps,assign,body,hy,hR⟩:=hY _ ⟨k,aJ⟩ wr LN (by rw [xd hk]; exact aJ)
   dsimp only at hy
   gi_wp2
   refine hR.mono ?_
   rintro e W3 (⟨rfl,Ry,Jk⟩ | ⟨rfl,LP⟩)
   ·gi_wp2
    go_roundw
    case rel=>exact ⟨k+1,by omega,by simp,by rw [uF aJ]; exact Ry,LO.trans Jk⟩
    case measure=>simp [intOf]; omega
   ·gi_wp2
    refine bodyPost_ret (results_none rfl _ _ _) rfl ?_;exact ⟨⟨_,rfl⟩,.inr ⟨_,⟨k+1,by omega,(uF aJ).symm⟩,LP⟩⟩
  ·obtain rfl:k=m:=by omega
   gi_wp2
   go_end0
   exact ⟨⟨_,rfl⟩,.inl ⟨_,rfl,LN⟩⟩
end Go.Proofs.YtbngdgfmlmkgiaaGreat

namespace Go.Proofs.RF
open Go Go.RowKit
def jM (D:Nat) (W:World):Prop:=W.heap[D]?=some (.deferred (some []))
theorem jM.size {D:Nat} {W:World} (h:jM D W):D<W.heap.size:=(Array.getElem?_eq_some_iff.1 h).1
theorem jM.Fv (h:jM D W) (hb:Below W.heap.size W W'):jM D W':=(hb.block D h.size).trans h
theorem jM.alloc {D:Nat} {W:World} (h:jM D W) (o:Obj):jM D (W.alloc o):=(Below.heap_alloc W o D h.size).trans h
theorem jM.drew {D:Nat} {W:World} (h:jM D W):jM D W.drew:=h
theorem jM.setCell {D:Nat} {W:World} (h:jM D W) (a:Addr) (v:Value):jM D (W.setCell a v) :=
 (KeepsOthers.setCell W a v).same D _ h rfl
theorem jM.cell {D:Nat} {o:Option (List Deferred)} {W:World} (h:jM D W) (a:Addr):(W.putObj D (.deferred o)).cell? a=W.cell? a:=by
 unfold World.cell?
 by_cases e:a.block=D
 ·rw [e,World.putObj_heap_same h.size,show W.heap[D]?=_ from h]
 ·rw [World.putObj_heap_other e]
theorem jM.frozen {D:Nat} {o:Option (List Deferred)} {W:World} (h:jM D W) (a:Addr):(W.putObj D (.deferred o)).frozen? a=W.frozen? a:=by
 unfold World.frozen?
 by_cases e:a.block=D
 ·rw [e,World.putObj_heap_same h.size,show W.heap[D]?=_ from h]
 ·rw [World.putObj_heap_other e]
def mark (D:Nat):Deferred:={ target:=.collected D,args:=#[] }
theorem leaves {n:Nat} {P:Program} {fn:Func} {tmps:Array Value} {R:Ending→World→Prop} (B:Nat):∀ (ds:List Nat) (W:World),ds.Nodup→(∀ D,D∈ds→jM D W∧B≤D) →
  (∀ W',Below B W W'→(∀ a,W'.cell? a=W.cell? a)→(∀ a,W'.frozen? a=W.frozen? a)→∃ v,(results fn tmps).run P W'=.ok v W'∧R (.returned v) W') →
  LeavesInM Fence.wide n P fn tmps R (ds.map mark) .returning W
 | [],W,_,_,h=>h W (Below.refl _ _) (fun _=>rfl) (fun _=>rfl)
 | D :: ds,W,hn,hD,h=>by
  rw [List.nodup_cons] at hn;obtain ⟨hd,hB⟩:=hD D (by simp);have hb:Below B W (W.putObj D (.deferred none)):=⟨rfl,rfl,rfl,by simp,fun k hk=>World.putObj_heap_other (by omega)⟩;refine ⟨by simp,.inl ⟨D,_,rfl,run_takeDeferred hd,leaves B ds _ hn.2 (fun D' u7=>?_) (fun W' h1 h2 h3=>?_)⟩⟩
  ·refine ⟨(World.putObj_heap_other ?_).trans (hD D' (by simp [u7])).1,(hD D' (by simp [u7])).2⟩
   intro e; exact hn.1 (e▸u7)
  ·exact h W' (hb.trans h1) (fun a=>(h2 a).trans (hd.cell a)) (fun a=>(h3 a).trans (hd.frozen a))
theorem AP {P:Program} {f:FuncId} {fn:Func} {c:Code} {args:Array Value} {w:World} {R:Ending→World→Prop}
  (hf:P.funcs[f]?=some fn) (hb:fn.body=some c)
  (h:c.wp P (bodyPostM Fence.wide 0 P fn R) { tmps:=args++Array.replicate (fn.ntmps - args.size) undef,defers:=[] } w):Calls P f args w R :=
 callsIn_wide.1 (callsIn_of_wp_marks (n:=0) hf hb trivial (wpIn_wide.2 h))
end Go.Proofs.RF
namespace Go.Proofs.YtbngdgfmlmkgiaaGreat
open Go.RowKit
open Go.Proofs
open Go.Shelf
attribute [local irreducible] Go.Calls Go.wpList
structure KK (B n₀:Nat) (W W':World):Prop where
 keeps:KeepsFrom B W W'
 jN:Below n₀ W W'
 le:n₀≤W.heap.size
theorem KK.refl {B n₀:Nat} {W:World} (h:n₀≤W.heap.size):KK B n₀ W W:=⟨KeepsFrom.refl _ _,Below.refl _ _,h⟩
theorem KK.acc {mO:World} (h:KK B n₀ W W') (hb:Below W'.heap.size W' mO):KK B n₀ W mO :=
 ⟨h.keeps.trans ⟨hb.size,fun k o _ hk _=>(hb.block k (Array.getElem?_eq_some_iff.1 hk).1).trans hk⟩,h.jN.trans (hb.mono (Nat.le_trans h.le h.jN.size)),h.le⟩
theorem KK.set (h:KK B n₀ W W') {b o:Nat} (v:Value) (hb:n₀≤b):KK B n₀ W (W'.setCell ⟨b,o,none⟩ v) :=
 ⟨h.keeps.trans ((KeepsOthers.setCell _ _ _).from _),h.jN.setCell (p:=⟨b,o,none⟩) hb v,h.le⟩
theorem KK.grown {B n₀:Nat} {W W' mO:World} (h:KK B n₀ W W') {e:TypeId} {v:Value} {n size:Nat} {xs:List Value} (hr:W'.ownsRow n₀ e size v n xs) (hg:W'.grownBy mO v.ownBlock):KK B n₀ W mO :=
 ⟨h.keeps.trans ((KeepsOthers.of_grownBy hg (fun j o e1 e2=>by
  obtain ⟨_,h2⟩:=hr
  rcases h2 with ⟨h3,_⟩ | ⟨g,cap,cur,h3,rS,hc,_⟩
  ·rw [h3] at e1; simp [Value.ownBlock] at e1
  ·rw [h3] at e1
   simp [Value.ownBlock] at e1;subst e1;rw [hc] at e2
   cases e2; rfl)).from _),h.jN.grown hg (Nat.le_trans h.le h.jN.size) (fun j hj=>(hr.lt j hj).1),h.le⟩
theorem JD (n:Int) (ov rv:Value) (w:World) :
  Calls Tryz.prog 89 #[.agg #[.int .i64 n,ov,rv]] w fun e w'=>∃ fb,e=.returned (.func (.func 111) #[] #[.pointer (some ⟨fb,0,none⟩)])∧CL w' fb 2 rv∧Below w.heap.size w w':=by
 go_enter Tryz.func89,Tryz.ntmps89
 have bG:=jA w (.int .i64 n) ov rv;go_upto_region 0 with fail
 refine b6<|i8 (Rg.ba _ _ rfl rfl) ?_;go_frame
 have hb:Below w.heap.size w (w.alloc (.cells #[.int .i64 n,ov,rv] 54)):=(Below.refl _ _).alloc (Nat.le_refl _) _;generalize w.alloc (.cells #[.int .i64 n,ov,rv] 54)=w1 at *;have H:=ι bG.2.2;have K:=ι hb;clear bG hb;go_wp2;go_ret;exact ⟨_,rfl,H.out,K.out⟩
structure JE (n₀:Nat) (w:World) (ad:Option Addr) (m:Nat) (RV:Nat→Value):Prop where
 le:m≤1000000000
 MO:0<m→∃ b off,ad=some ⟨b,off,none⟩∧b<n₀
 cells:∀ b off,ad=some ⟨b,off,none⟩→∀ j,j<m→w.cell? ⟨b,off+j,none⟩=some (RV j)
 sz:n₀≤w.heap.size
theorem JE.below {w:World} {ad:Option Addr} {RV:Nat→Value} (h:JE n₀ w ad m RV) (hb:Below n₀ w w'):JE n₀ w' ad m RV :=
 ⟨h.le,h.MO,fun b off e j hj=>by
  obtain ⟨b',aah,e',aJ⟩:=h.MO (by omega);rw [e] at e';simp only [Option.some.injEq,Addr.mk.injEq,and_true] at e';obtain ⟨rfl,rfl⟩:=e'
  exact (hb.cell (p:=⟨b,off+j,none⟩) aJ).trans (h.cells b off e j hj),Nat.le_trans h.sz hb.size⟩
theorem Dg {w:World} {fb:Nat} {ad:Option Addr} {RV:Nat→Value} (h:JE n₀ w ad m RV) (Fw:CL w fb 2 (.slice ad m cap)) (n:Nat) (hn:1≤n) :
  SeqStopsK Fence.wide n Tryz.prog 111 #[.pointer (some ⟨fb,0,none⟩)] (fun x:Fin m=>#[Value.int .i64 ((x.1:Nat):Int),RV x.1]) (Below n₀) (fun ys=>ys=jk m m) (fun pre=>∃ k,k≤m∧pre=jk m k) m w:=fun l J Jx W hW _ _ hY h0=>by
 have h':=h.below (hW.mono h.sz);exact JC Fence.wide n trivial rfl hn l fb n₀ m cap ad RV h.le h.MO J Jx hY W ((hW.cell (p:=⟨fb,2,none⟩) Fw.lt).trans Fw.cell) h'.cells h0
theorem Dh {g:Operand} {ps:Array Go.Tmp} {assign body:Code} {Q:Exit→Act→World→Prop} {a:Act} {w:World} {fb:Nat} {ad:Option Addr} {RV:Nat→Value}
  (hg:a.eval g=.func (.func 111) #[] #[.pointer (some ⟨fb,0,none⟩)]) (Fw:CL w fb 2 (.slice ad m cap)) (h:JE n₀ w ad m RV) (Zn:ps.size=2)
  (I:List (Fin m)→World→Prop) (Ix:Code→List (Fin m)→World→Prop) (hI:OwnFrom w.heap.size I) (hIx:∀ c,OwnFrom w.heap.size (Ix c)) (h0:I [] w) (MP:Fin m→Act)
  (MQ:∀ (l:Nat) (x:Fin m) (W:World) (K:Act→World→Prop),K (MP x) W→assign.wpIn (Fence.wide.inRound l) 1 Tryz.prog (Exit.then K (fun _ _ _=>False)) { tmps:=(ps.zip #[Value.int .i64 ((x.1:Nat):Int),RV x.1]).foldl (fun t (p,v)=>t.setIfInBounds p v) a.tmps,defers:=[] } W)
  (Sy:∀ (l:Nat) (pre:List (Fin m)) (x:Fin m) (W:World),I pre W→pre.length<m→body.wpIn (Fence.wide.inRound l) 1 Tryz.prog (ownPostG w.heap.size (Below n₀) I Ix (pre++[x]) W) (MP x) W)
  (Sz:∀ (D:Nat) (W:World),w.heap.size≤D→I (jk m m) W→RF.jM D W→Q .normal { a with defers:=RF.mark D :: a.defers } W)
  (SA:∀ (D:Nat) (c:Code) (pre:List (Fin m)) (W:World),w.heap.size≤D→Ix c pre W→RF.jM D W→c.wp Tryz.prog Q { a with defers:=RF.mark D :: a.defers } W) :
  (Code.rangeFunc g ps assign body).wp Tryz.prog Q a w :=
 wpIn_wide.1 (wpIn_rangeFunc_ownG (F:=Fence.wide) (n:=3) rfl (by decide) (gf:=111) (lb:=#[.pointer (some ⟨fb,0,none⟩)]) hg trivial (enters_of Tryz.func111 (by kernel_rfl) rfl)
  (Dg h Fw 2 (by decide)) belowK_t (belowK_b h.sz) (Below.refl _ _) (fun _=>Zn.symm) I Ix hI hIx h0 MP MQ Sy
  (fun D xs W hD hx hi hd=>by subst hx; exact Sz D W hD hi hd) (fun D c pre W hD _ hi hd=>wpIn_wide.2 (SA D c pre W hD hi hd)))
end Go.Proofs.YtbngdgfmlmkgiaaGreat

namespace Go.Proofs.YtbngdgfmlmkgiaaGreat
open Go.Proofs
open Go.Proofs.Cm (Gr Gd ar eI St)
theorem MR {l:List Nat} {a b:Nat} (h:l.Pairwise (· < ·)) (hr:∀ x∈l,a≤x∧x<b):l.length≤b - a:=by
 have h1:l.Nodup:=h.imp (fun {x y} aJ e=>by omega)
 have h2:=fA (m:=List.range' a (b - a)) h1 (fun x hx=>by
  have:=hr x hx;rw [List.mem_range'_1]
  omega)
 rwa [List.length_range'] at h2
theorem eN {α:Type} {l:List (List α)} {i:Nat} (h:i<l.length):l.getD i []=l[i]:=by rw [List.getD_eq_getElem?_getD,List.getElem?_eq_getElem h]; rfl
theorem Fy (h:ar n H O R) {r:List Nat} (hr:r∈R.flatten):∃ i k,i<n∧k<(O.getD i []).length∧r=(R.getD i []).getD k []:=by
 obtain ⟨l,hl,hr⟩:=List.mem_flatten.1 hr;obtain ⟨i,hi,rfl⟩:=List.getElem_of_mem hl;obtain ⟨k,hk,rfl⟩:=List.getElem_of_mem hr
 have aB:i<n:=by rw [← h.il]; exact hi
 have e1:=h.len i aB;rw [eN hi] at e1;exact ⟨i,k,aB,by omega,by rw [eN hi]; exact (JF hk).symm⟩
where
 JF {l:List (List Nat)} {k:Nat} (h:k<l.length):l.getD k []=l[k]:=by rw [List.getD_eq_getElem?_getD,List.getElem?_eq_getElem h]; rfl
theorem xe (h:ar n H O R) {r:List Nat} (hr:r∈R.flatten):H r:=by
 obtain ⟨i,k,hi,hk,rfl⟩:=Fy h hr;exact (h.rep i k hi hk).1.1.1
theorem Fz (hH:eI n H) (h:ar n H O R) (x:List Nat):H x↔Gr n (·∈R.flatten) x:=by
 have kz:∀ s,s∈R.flatten→Gd n s:=fun s hs=>hH.gd s (xe h hs)
 constructor
 ·intro hx
  have key:∀ d i x,i+d=n→St H i x→Gr n (·∈R.flatten) x:=by
   intro d
   induction d with
   | zero =>
    intro i x hi hx
    obtain rfl:i=n:=by omega
    rw [Cm.Fx.all (hH.gd x hx.1) hx.2];exact .one
   | succ d ih =>
    intro i x hi hx
    have aB:i<n:=by omega
    have gx:=hH.gd x hx.1;have hp:=(h.orb i (Cm.ap x i) aB).2 ⟨x,hx,rfl⟩;obtain ⟨k,hk,e⟩:=List.getElem_of_mem hp;have hl:=(h.rep i k aB hk).1
    have e2:(O.getD i []).getD k 0=Cm.ap x i:=by rw [List.getD_eq_getElem?_getD,List.getElem?_eq_getElem hk]; exact e
    rw [e2] at hl;have e3:=h.len i aB
    have OM:(R.getD i []).getD k []∈R.flatten:=by
     have u9:i<R.length:=by rw [h.il]; exact aB
     rw [eN u9];rw [eN u9] at e3;rw [List.getD_eq_getElem?_getD,List.getElem?_eq_getElem (by omega)];exact List.mem_flatten.2 ⟨_,List.getElem_mem u9,List.getElem_mem _⟩
    generalize (R.getD i []).getD k []=r at *;have gr:=kz r OM
    have yC:St H (i+1) (Ma.aj x (Ma.aO r)):=by
     refine ⟨hH.mul _ _ hx.1 (hH.inv _ hl.1.1),fun j hj=>?_⟩;rw [Cm.bU gx (by omega)]
     by_cases ej:j=i
     ·subst ej
      rw [← hl.2];exact Cm.gX gr aB
     ·rw [hx.2 j (by omega)]
      exact Cm.Fx.inv gr (Nat.le_of_lt aB) hl.1.2 j (by omega)
    have h1:=ih (i+1) _ (by omega) yC;have h2:=Gr.mul _ _ h1 (.gen r OM)
    rwa [Cm.mul_inv_cancel gx gr] at h2
  exact key n 0 x (by omega) ⟨hx,fun j hj=>absurd hj (Nat.not_lt_zero _)⟩
 ·intro hx
  exact Gr.sub hH (fun s hs=>xe h hs) hx
theorem gS (hH:eI n H) (h:ar n H O R) {i:Nat} (hi:i<n):(O.getD i []).length≤n - i:=by
 refine MR (h.pQ i hi) fun p hp=>?_;obtain ⟨x,hx,rfl⟩:=(h.orb i p hi).1 hp;have gx:=hH.gd x hx.1;refine ⟨Nat.le_of_not_lt fun aJ=>?_,Cm.eH gx hi⟩;have e:=hx.2 _ aJ;have:=Cm.ku gx (Nat.lt_trans aJ hi) hi e;omega
def fh (n:Int) (OO:List (List Int)) (RR:List (List (List Int))):Prop:=∃ (N:Nat) (O:List (List Nat)) (R:List (List (List Nat))),n=((N:Nat):Int)∧1≤N∧N≤64∧OO=O.map Ma.ah∧RR=R.map (List.map Ma.ah)∧ar N (Gr N (·∈R.flatten)) O R∧∀ s∈R.flatten,Gd N s
def nC (n:Int) (OO:List (List Int)) (RR:List (List (List Int))) (c:Int):Prop:=(¬ (1≤n∧n≤64)∧c=2)∨((1≤n∧n≤64)∧((fh n OO RR∧c=0)∨(¬ fh n OO RR∧c=3)))
theorem nC.uniq {n:Int} {c c':Int} (h:nC n OO RR c) (h':nC n OO RR c'):c=c':=by
 rcases h with ⟨a,rfl⟩ | ⟨a,⟨b,rfl⟩ | ⟨b,rfl⟩⟩ <;> rcases h' with ⟨a',rfl⟩ | ⟨a',⟨b',rfl⟩ | ⟨b',rfl⟩⟩ <;> first | rfl | exact absurd a a' | exact absurd a' a | exact absurd b b' | exact absurd b' b
theorem nC.zero {n:Int} (h:nC n OO RR 0):fh n OO RR:=by
 rcases h with ⟨_,e⟩ | ⟨_,⟨b,_⟩ | ⟨_,e⟩⟩
 ·cases e
 ·exact b
 ·cases e
theorem nC.of {n:Int} (h:fh n OO RR):nC n OO RR 0:=by
 obtain ⟨N,O,R,e,h1,h2,_⟩:=id h;exact .inr ⟨by omega,.inl ⟨h,rfl⟩⟩
theorem fh.lens {n:Int} (h:fh n OO RR):(OO.length:Int)=n∧(RR.length:Int)=n:=by
 obtain ⟨N,O,R,rfl,h1,h2,rfl,rfl,hc,_⟩:=h;rw [List.length_map,List.length_map,hc.iY,hc.il];exact ⟨rfl,rfl⟩
theorem fh.row {n:Int} (h:fh n OO RR) {i:Nat} (hi:i<RR.length) (eE:i<OO.length):RR[i].length=OO[i].length∧(RR[i].length:Int)≤n - (i:Int):=by
 obtain ⟨N,O,R,rfl,h1,h2,rfl,rfl,hc,hg⟩:=h;rw [List.length_map] at hi eE
 have aB:i<N:=by rw [← hc.il]; exact hi
 have e1:=hc.len i aB;have e2:=gS (Gr.fW (gs:=(·∈R.flatten)) hg) hc aB;rw [eN eE] at e1 e2;rw [eN hi] at e1;simp only [List.getElem_map,List.length_map,Ma.aG];omega
theorem fh.perm {n:Int} (h:fh n OO RR) {i:Nat} (hi:i<RR.length) {x:List Int} (hx:x∈RR[i]):(x.length:Int)=n∧Ma.cj x=0:=by
 obtain ⟨N,O,R,rfl,h1,h2,rfl,rfl,hc,hg⟩:=h;rw [List.length_map] at hi;rw [List.getElem_map] at hx;obtain ⟨y,hy,rfl⟩:=List.mem_map.1 hx;have gy:=hg y (List.mem_flatten.2 ⟨_,List.getElem_mem hi,hy⟩);rw [Ma.aG,gy.2];exact ⟨rfl,Ma.oq (by rw [Ma.aG,gy.2]; exact h1) (by rw [Ma.aG,gy.2]; exact h2) (Ma.vM gy.1)⟩
theorem cX:∀ {a b:List (List Nat)},a.map Ma.ah=b.map Ma.ah→a=b
 | [],[],_=>rfl
 | [],_ :: _,h=>by simp at h
 | _ :: _,[],h=>by simp at h
 | x :: a,y :: b,h=>by
  simp only [List.map_cons,List.cons.injEq] at h;rw [Ma.ou h.1,cX h.2]
theorem p7 (R:List (List (List Nat))):(R.map (List.map Ma.ah)).flatten=R.flatten.map Ma.ah:=by
 induction R with
 | nil=>rfl
 | cons r R ih=>simp only [List.map_cons,List.flatten_cons,List.map_append,ih]
theorem fh.same (h1:1≤N) (h2:N≤64) (hg:∀ s∈gs,Gd N s) (kz:RR.flatten=gs.map Ma.ah) (hc:ar N (Gr N (·∈gs)) O R) :
  fh ((N:Nat):Int) OO RR↔OO=O.map Ma.ah∧RR=R.map (List.map Ma.ah):=by
 constructor
 ·rintro ⟨N',O',R',e,_,_,rfl,rfl,OZ,_⟩
  obtain rfl:N=N':=by omega
  rw [p7] at kz;have:=cX kz;subst this;obtain ⟨rfl,rfl⟩:=hc.uniq OZ;exact ⟨rfl,rfl⟩
 ·rintro ⟨rfl,rfl⟩
  rw [p7] at kz;have:=cX kz;subst this;exact ⟨N,O,R,rfl,h1,h2,rfl,rfl,hc,hg⟩
theorem tQ (h1:1≤N) (h2:N≤64) (hg:∀ s∈gs,Gd N s) (hc:ar N (Gr N (·∈gs)) O R):fh ((N:Nat):Int) (O.map Ma.ah) (R.map (List.map Ma.ah)):=by
 have hH:=Gr.fW (n:=N) (gs:=(·∈gs)) hg;have e:Gr N (·∈gs)=Gr N (·∈R.flatten):=funext fun x=>propext (Fz hH hc x);refine ⟨N,O,R,rfl,h1,h2,rfl,rfl,?_,fun s hs=>hH.gd s (xe hc hs)⟩;rw [← e];exact hc
end Go.Proofs.YtbngdgfmlmkgiaaGreat

namespace Go.Proofs.YtbngdgfmlmkgiaaGreat
open Go.RowKit
open Go.Proofs
open Go.Proofs.Ob
open Go.Shelf
open Go.Proofs.Cm (Lv bf bX)
attribute [local go_sem] Oper.semAt_some
attribute [local irreducible] Go.Calls Go.wpList Go.wpListIn
theorem SB (args:Array Value) (w:World):(callFunc 89 args).run Tryz.prog w=.ok (.enter 89 args) w:=by kernel_rfl
theorem FA (args:Array Value) (w:World):(callFunc 53 args).run Tryz.prog w=.ok (.enter 53 args) w:=by kernel_rfl
theorem SC (args:Array Value) (w:World):(callFunc 90 args).run Tryz.prog w=.ok (.enter 90 args) w:=by kernel_rfl
theorem xf:(Tryz.prog.info? 30).map (fun i=>(i.zero,i.size,i.bytes))=some (some (.int .i64 0),1,8):=by kernel_rfl
theorem AQ {o:Oper} {a:Act} {w:World} (ho:o.op=.alloc 30):(execOp a.eval o).run Tryz.prog w=.ok (.value (.pointer (some ⟨w.heap.size,0,none⟩))) (w.alloc (.cells #[.int .i64 0] 30)):=by
 obtain ⟨i0,hi,dc,bM,eY⟩:=info_parts xf;unfold execOp;simp [ho,Instr.alloc,typeInfo,zeroValue,hi,dc,newVar,Value.cells,Result.andThen];rfl
theorem AR {o:Oper} {a:Act} {w:World} (ho:o.op=.alloc 3):(execOp a.eval o).run Tryz.prog w=.ok (.value (.pointer (some ⟨w.heap.size,0,none⟩))) (w.alloc (.cells #[.int .i64 0] 3)):=by
 obtain ⟨i0,hi,dc,bM,eY⟩:=info_parts pH;unfold execOp;simp [ho,Instr.alloc,typeInfo,zeroValue,hi,dc,newVar,Value.cells,Result.andThen];rfl
theorem yH {o:Oper} {a:Act} {w:World} (ho:o.op=.alloc 22):(execOp a.eval o).run Tryz.prog w=.ok (.value (.pointer (some ⟨w.heap.size,0,none⟩))) (w.alloc (.cells #[.slice none 0 0] 22)):=by
 obtain ⟨i0,hi,dc,bM,eY⟩:=info_parts gO;unfold execOp;simp [ho,Instr.alloc,typeInfo,zeroValue,hi,dc,newVar,Value.cells,Result.andThen];rfl
theorem ef {w:World} {b o:Nat} {u:Value} (v:Int) (h:w.cell? ⟨b,o,none⟩=some u) (hf:w.frozen? ⟨b,o,none⟩=false) :
  (storeVar 30 ⟨b,o,none⟩ (.int .i64 v)).run Tryz.prog w=.ok () (w.setCell ⟨b,o,none⟩ (.int .i64 v)):=by
 obtain ⟨i0,hi,dc,bM,eY⟩:=info_parts xf
 have h0:(⟨b,o,none⟩:Addr).add 0=⟨b,o,none⟩:=by simp [Addr.add]
 simp [storeVar,sizeOf,typeInfo,hi,bM,Value.cells,storeCells,store,h0];simp [Sem.run,h,hf]
theorem FD {w:World} {ad:Addr} {v:Value} (h:w.cell? ad=some v):(loadVar 30 ad).run Tryz.prog w=.ok v w:=by
 simp [loadVar,isAgg,run_underlying Tryz.underlying30,load];simp [Sem.run,h]
theorem xg {fn:Func} {p:Go.Tmp} (h:fn.results=#[.cell p 30]) (tmps:Array Value) {w:World} {b:Nat} {v:Value} (hp:tmps.getD p undef=.pointer (some ⟨b,0,none⟩)) (hc:w.cell? ⟨b,0,none⟩=some v) :
  (results fn tmps).run Tryz.prog w=.ok v w:=by
 have rE:tmps[p]?.getD undef=.pointer (some ⟨b,0,none⟩):=by simpa using hp
 simp [results,h,rE,asAddr,FD hc]
theorem bh {w:World} {b:Nat} {x y:Value} (h0:w.cell? ⟨b,0,none⟩=some x) (h1:w.cell? ⟨b,1,none⟩=some y) (h2:w.cell? ⟨b,2,none⟩=some z):(loadVar 54 ⟨b,0,none⟩).run Tryz.prog w=.ok (.agg #[x,y,z]) w:=by
 obtain ⟨i0,hi,dc,bM,eY⟩:=info_parts nw
 have z6:(⟨b,0,none⟩:Addr).add 0=⟨b,0,none⟩:=by simp [Addr.add]
 have s_:(⟨b,0,none⟩:Addr).add 1=⟨b,1,none⟩:=by simp [Addr.add]
 have tG:(⟨b,0,none⟩:Addr).add 2=⟨b,2,none⟩:=by simp [Addr.add]
 have hg:(isAgg 54).run Tryz.prog w=.ok true w:=by kernel_rfl
 simp [loadVar,hg,sizeOf,typeInfo,hi,bM,loadCells,loadCellsFrom,load,z6,s_,tG];simp [Sem.run,h0,h1,h2]
structure CW (w:World) (b:Nat) (v:Value):Prop where
 c:w.cell? ⟨b,0,none⟩=some v
 f:w.frozen? ⟨b,0,none⟩=false
 lt:b<w.heap.size
theorem CW.below {w:World} {b:Nat} {v:Value} (h:CW w b v) (hb:Below w.heap.size w w'):CW w' b v:=⟨(hb.cell (p:=⟨b,0,none⟩) h.lt).trans h.c,(hb.frozen (p:=⟨b,0,none⟩) h.lt).trans h.f,Nat.lt_of_lt_of_le h.lt hb.size⟩
theorem CW.new (w:World) (v:Value) (t:TypeId):CW (w.alloc (.cells #[v] t)) w.heap.size v:=⟨by rw [Rg.aM]; rfl,dv _ _ _ 0 _,by simp⟩
theorem CW.set {w:World} {b:Nat} {u:Value} (h:CW w b u) (v:Value):CW (w.setCell ⟨b,0,none⟩ v) b v:=⟨World.cell?_setCell_same (h:=h.c) ..,by rw [World.frozen?_setCell]; exact h.f,by simpa using h.lt⟩
theorem CW.other {w:World} {b b' o:Nat} {u:Value} (h:CW w b u) (v:Value) (hne:b≠b'):CW (w.setCell ⟨b',o,none⟩ v) b u:=⟨by rw [World.cell?_setCell_other (h:=by intro e; injection e with e1 e2; omega) ..]; exact h.c,by rw [World.frozen?_setCell]; exact h.f,by simpa using h.lt⟩
theorem CL.other {w:World} {b b' o o':Nat} {u:Value} (h:CL w b o' u) (v:Value) (hne:b≠b'):CL (w.setCell ⟨b',o,none⟩ v) b o' u:=⟨by rw [World.cell?_setCell_other (h:=by intro e; injection e with e1 e2; omega) ..]; exact h.cell,by simpa using h.lt⟩
theorem CW.kp {w:World} {b:Nat} {v:Value} (h:CW w b v) (hk:Rg.Kp M w w') (hM:¬ M b):CW w' b v :=
 ⟨(World.cell?_of_block (a:=⟨b,0,none⟩) (hk.block b h.lt hM)).trans h.c,(World.frozen?_of_block (a:=⟨b,0,none⟩) (hk.block b h.lt hM)).trans h.f,Nat.lt_of_lt_of_le h.lt hk.size⟩
theorem CL.kp {w:World} {b o:Nat} {v:Value} (h:CL w b o v) (hk:Rg.Kp M w w') (hM:¬ M b):CL w' b o v :=
 ⟨(World.cell?_of_block (a:=⟨b,o,none⟩) (hk.block b h.lt hM)).trans h.cell,Nat.lt_of_lt_of_le h.lt hk.size⟩
structure u_ (w:World) (n:Int) (ov rv:Value) (W:World) (v:Value) (gs:List (List Nat)):Prop where
 jN:Below w.heap.size w W
 a0:CL W w.heap.size 0 (.int .i64 n)
 a1:CL W w.heap.size 1 ov
 a2:CL W w.heap.size 2 rv
 c2:CW W (w.heap.size+1) (.int .i64 0)
 c3:CW W (w.heap.size+2) (.int .i64 n)
 c4:CW W (w.heap.size+3) v
 row:dw (fun k=>k<w.heap.size) (w.heap.size+4) W v gs
theorem u_.below {w:World} {n:Int} {ov rv:Value} {W W':World} {v:Value} {gs:List (List Nat)} (h:u_ w n ov rv W v gs) (hb:Below W.heap.size W W'):u_ w n ov rv W' v gs :=
 ⟨Rg.acc h.jN hb,h.a0.below hb,h.a1.below hb,h.a2.below hb,h.c2.below hb,h.c3.below hb,h.c4.below hb,h.row.below hb⟩
theorem u_.keep {w:World} {n:Int} {v:Value} {row:Option Nat} (h:u_ w n ov rv W v gs) (hB:w.heap.size+4≤B) (hg:W.grownBy W' row) (hr:∀ r,row=some r→B≤r∧∃ o:Obj,W.heap[r]?=some o∧o.isCells=false):u_ w n ov rv W' v gs:=by
 have hk:Rg.Kp (fun k=>row=some k) W W':=Rg.Kp.cH hg fun _ e=>e
 have hM:∀ b,b<B→¬ row=some b:=fun b hb e=>by have:=(hr b e).1; omega
 obtain ⟨us,h1,h2⟩:=h.row.own;refine ⟨h.jN.grown hg h.jN.size (fun k e=>by have:=(hr k e).1; omega),h.a0.kp hk (hM _ (by omega)),h.a1.kp hk (hM _ (by omega)),h.a2.kp hk (hM _ (by omega)),h.c2.kp hk (hM _ (by omega)),h.c3.kp hk (hM _ (by omega)),h.c4.kp hk (hM _ (by omega)),⟨Nat.le_trans h.row.size hk.size,us,gM h1 hk (fun k e1 e2=>?_),h2.kp hk (fun k fD=>hM k (by omega))⟩⟩;obtain ⟨_,o,ho,hc⟩:=hr k e1;obtain ⟨_,h3⟩:=h1
 rcases h3 with ⟨h4,_⟩ | ⟨g,cap,cur,h4,_,h5,_⟩
 ·rw [h4] at e2; simp [Value.ownBlock] at e2
 ·rw [h4] at e2
  simp [Value.ownBlock] at e2;subst e2;rw [h5] at ho
  cases ho; cases hc
def rowOf (RR:List (List (List Int))) {m:Nat} (x:Fin m):List (List Int):=RR.getD x.1 []
theorem CW.upto {w:World} {b:Nat} {v:Value} (h:CW w b v) (hb:Below B w w') (hB:b<B):CW w' b v:=⟨(hb.cell (p:=⟨b,0,none⟩) hB).trans h.c,(hb.frozen (p:=⟨b,0,none⟩) hB).trans h.f,Nat.lt_of_lt_of_le h.lt hb.size⟩
theorem CL.upto {w:World} {b o:Nat} {v:Value} (h:CL w b o v) (hb:Below B w w') (hB:b<B):CL w' b o v:=⟨(hb.cell (p:=⟨b,o,none⟩) hB).trans h.cell,Nat.lt_of_lt_of_le h.lt hb.size⟩
theorem bZ.mk {w:World} (h1:Rg.Rows w ov OO) (h2:fL w rv RR):bZ w ov rv OO RR:=⟨h1,h2⟩
theorem bZ.upto {w:World} (h:bZ w ov rv OO RR) (hb:Below w.heap.size w w'):bZ w' ov rv OO RR:=h.below hb
theorem _root_.Go.Proofs.RF.jM.below (h:RF.jM D W) (hb:Below W.heap.size W W'):RF.jM D W':=h.Fv hb
theorem KK.below {mO:World} (h:KK B n₀ W W') (hb:Below W'.heap.size W' mO):KK B n₀ W mO:=h.acc hb
theorem JG {n m:Int} {r7 tJ:Value} {mS:List (List Int)} {iu:List (List (List Int))} {w:World} (h1:bZ w ov rv OO RR) (h2:bZ w r7 tJ mS iu) {b:Bool} (hb:Hid (decide (n=m∧OO=mS∧RR=iu)=b)) :
  Calls Tryz.prog 90 #[.agg #[.int .i64 n,ov,rv],.agg #[.int .i64 m,r7,tJ]] w fun e w'=>e=.returned (.bool b)∧Below w.heap.size w w':=by
 rw [← hb.out]; exact De h1 h2
theorem u_.store {w:World} {n:Int} {v v':Value} {gs':List (List Nat)} (h:u_ w n ov rv W v gs) (hb:Below (w.heap.size+4) W X) (hr:dw (fun k=>k<w.heap.size) (w.heap.size+4) X v' gs'):u_ w n ov rv (X.setCell ⟨w.heap.size+3,0,none⟩ v') v' gs':=by
 have hk:Rg.Kp (fun z=>z=w.heap.size+3) X (X.setCell ⟨w.heap.size+3,0,none⟩ v'):=Rg.Kp.aS rfl;obtain ⟨us,q1,q2⟩:=hr.own;refine ⟨(h.jN.trans (hb.mono (by omega))).setCell (p:=⟨w.heap.size+3,0,none⟩) (by show w.heap.size≤w.heap.size+3; omega) _,(h.a0.upto hb (by omega)).other _ (by omega),(h.a1.upto hb (by omega)).other _ (by omega),(h.a2.upto hb (by omega)).other _ (by omega),(h.c2.upto hb (by omega)).other _ (by omega),(h.c3.upto hb (by omega)).other _ (by omega),(h.c4.upto hb (by omega)).set _,⟨Nat.le_trans hr.size hk.size,us,gM q1 hk (fun k e1 e2=>by have:=(q1.lt k e2).1; omega),q2.kp hk (fun k fD e=>by omega)⟩⟩
theorem KK.row {W1:World} {B2:Nat} {v:Value} (h:KK B n₀ W W1) (hk:Rg.Kp (fun k=>v.ownBlock=some k) W1 X) (hr:dw F B2 W1 v gs) (hn:n₀≤B2):KK B n₀ W X:=by
 obtain ⟨us,q1,q2⟩:=hr.own
 have nD:∀ j o,v.ownBlock=some j→W1.heap[j]?=some o→o.isCells=true:=fun j o e1 e2=>by
  obtain ⟨_,h3⟩:=q1
  rcases h3 with ⟨h4,_⟩ | ⟨g,cap,cur,h4,_,h5,_⟩
  ·rw [h4] at e1; simp [Value.ownBlock] at e1
  ·rw [h4] at e1
   simp [Value.ownBlock] at e1;subst e1;rw [h5] at e2
   cases e2; rfl
 refine ⟨h.keeps.trans ⟨hk.size,fun k o _ fD ho=>(hk.block k (Array.getElem?_eq_some_iff.1 fD).1 (fun e=>by rw [nD k o e fD] at ho; cases ho)).trans fD⟩,h.jN.trans ⟨hk.os,hk.tape,hk.output,hk.size,fun k fD=>hk.block k (by have:=h.jN.size; have:=h.le; omega) (fun e=>by have:=(q1.lt k e).1; omega)⟩,h.le⟩
theorem Di:(jk RR.length RR.length).flatMap (rowOf RR)=RR.flatten:=by
 rw [Fu];rw [List.flatMap_def]
 congr 1
 refine List.ext_getElem (by simp) fun i h1 h2=>?_;simp only [List.getElem_map,List.getElem_finRange];exact eN h2
def Ir (n:Int) (OO:List (List Int)) (RR:List (List (List Int))) (w:World) (e:Ending) (w':World):Prop:=∃ c,e=.returned (.int .i64 c)∧nC n OO RR c∧Below w.heap.size w w'
theorem jO {n:Int} {w:World} {tmps:Array Value} {c:Int} {ds:List Nat} (hb:Below w.heap.size w W) (hc:CW W (w.heap.size+1) (.int .i64 c)) (hC:nC n OO RR c) (hp:tmps.getD 2 undef=.pointer (some ⟨w.heap.size+1,0,none⟩)) (pR:ds.Nodup) (hD:∀ D,D∈ds→RF.jM D W∧w.heap.size≤D) :
  LeavesInM Fence.wide 0 Tryz.prog Tryz.f64 tmps (Ir n OO RR w) (ds.map RF.mark) .returning W :=
 RF.leaves w.heap.size ds W pR hD fun _ l1 l2 _=>⟨_,xg rfl _ hp ((l2 _).trans hc.c),c,rfl,hC,hb.trans l1⟩
theorem AU {n:Int} {w:World} (h:bZ w ov rv OO RR) :
  Calls Tryz.prog 64 #[.agg #[.int .i64 n,ov,rv]] w (Ir n OO RR w):=by
 obtain ⟨oa,oc,rfl,_,Wf,_,_⟩:=h.1.shape;obtain ⟨ra,rc,rfl⟩:=h.2.shape;have HO:=ι h.1;have HR:=ι h.2;have K:=ι (Below.refl w.heap.size w)
 have hrL:RR.length≤1000000000:=by
  obtain ⟨us,⟨a,c,e,_,_,e2,_⟩,h2,_⟩:=h.2;unfold Rg.na at e2;omega
 have H:=ι h;clear h;refine RF.AP Tryz.func64 rfl ?_;simp only [Tryz.ntmps64,List.size_toArray,List.length_cons,List.length_nil,Nat.reduceAdd,Nat.reduceSub,Array.replicate_succ,Array.replicate_zero,List.push_toArray,List.append_toArray,List.nil_append,List.cons_append];have bG:=jA w (.int .i64 n) (.slice oa OO.length oc) (.slice ra RR.length rc)
 have hs:(w.alloc (.cells #[.int .i64 n,.slice oa OO.length oc,.slice ra RR.length rc] 54)).heap.size=w.heap.size+1:=by simp
 go_upto_region 0 with fail
 refine b6<|i8 (Rg.ba _ _ rfl rfl) ?_;go_frame
 have hb:Below w.heap.size w (w.alloc (.cells #[.int .i64 n,.slice oa OO.length oc,.slice ra RR.length rc] 54)):=(Below.refl _ _).alloc (Nat.le_refl _) _;generalize w.alloc (.cells #[.int .i64 n,.slice oa OO.length oc,.slice ra RR.length rc] 54)=w1 at *;have A0:=ι bG.1;have A1:=ι bG.2.1;have A2:=ι bG.2.2;replace K:=ι hb;have s7:w1.heap.size=w.heap.size+1:=hs;clear bG hb hs;have tR:=CW.new w1 (.int .i64 0) 30
 have hs:(w1.alloc (.cells #[.int .i64 0] 30)).heap.size=w1.heap.size+1:=by simp
 refine i8 (AQ rfl) ?_;go_frame;have hb:=(Below.refl w1.heap.size w1).alloc (Nat.le_refl _) (.cells #[.int .i64 0] 30);generalize w1.alloc (.cells #[.int .i64 0] 30)=w2 at *;replace A0:=ι (A0.out.below hb);replace A1:=ι (A1.out.below hb);replace A2:=ι (A2.out.below hb);replace K:=ι (Rg.acc K.out hb);clear hb;rw [s7] at tR ⊢
 have ky:w2.heap.size=w.heap.size+2:=by omega
 have C2:=ι tR;clear tR hs;go_upto_region 1 with fail
 refine b6<|i8 (g8 (dD _ _))<|i8 (d8 (.int .i64 n) ⟨w.heap.size,0,none⟩ (af A0.out.cell)) ?_;go_frame
 have tR:=CW.new w2 (.int .i64 0) 3
 have hs:(w2.alloc (.cells #[.int .i64 0] 3)).heap.size=w2.heap.size+1:=by simp
 refine i8 (AR rfl) ?_;go_frame;have hb:=(Below.refl w2.heap.size w2).alloc (Nat.le_refl _) (.cells #[.int .i64 0] 3);generalize w2.alloc (.cells #[.int .i64 0] 3)=w3 at *;replace A0:=ι (A0.out.below hb);replace A1:=ι (A1.out.below hb);replace A2:=ι (A2.out.below hb);replace C2:=ι (C2.out.below hb);replace K:=ι (Rg.acc K.out hb);clear hb;rw [ky] at tR ⊢
 have Zo:w3.heap.size=w.heap.size+3:=by omega
 have C3:=ι tR;clear tR hs;refine Rg.aF none rfl rfl (Rg.az _ _ _ rfl _ rfl _ rfl (ee n C3.out.c C3.out.f)) ?_;go_frame;have hk:=K.out.setCell (p:=⟨w.heap.size+2,0,none⟩) (by show w.heap.size≤w.heap.size+2; omega) (.int .i64 n);have x0:=A0.out.other (o:=0) (b':=w.heap.size+2) (.int .i64 n) (by omega);have x1:=A1.out.other (o:=0) (b':=w.heap.size+2) (.int .i64 n) (by omega);have x2:=A2.out.other (o:=0) (b':=w.heap.size+2) (.int .i64 n) (by omega);have y2:=C2.out.other (o:=0) (b':=w.heap.size+2) (.int .i64 n) (by omega);have y3:=C3.out.set (.int .i64 n)
 have Wg:(w3.setCell ⟨w.heap.size+2,0,none⟩ (.int .i64 n)).heap.size=w.heap.size+3:=by simp; omega
 generalize w3.setCell ⟨w.heap.size+2,0,none⟩ (.int .i64 n)=w9 at *;replace K:=ι hk;replace A0:=ι x0;replace A1:=ι x1;replace A2:=ι x2;replace C2:=ι y2;replace C3:=ι y3;clear hk x0 x1 x2 y2 y3
 by_cases Pf:n<1
 ·skip
  go_upto_region 2 with fail
  refine b6<|i8 (d8 (.int .i64 n) ⟨(w.heap.size+2),0,none⟩ (af C3.out.c))<|i8 (d9 (.bool true) .lss (h:=aL _ d5))<|i7 rfl<|d7 14 ?_;go_frame
  refine d7 15<|i8 (f7 (.bool true)) ?_;go_frame
  go_upto_region 3 with fail
  refine b6<|Rg.aF none rfl rfl (Rg.az _ _ _ rfl _ rfl _ rfl (ef 2 C2.out.c C2.out.f)) ?_;go_frame
  have hk:=K.out.setCell (p:=⟨w.heap.size+1,0,none⟩) (by show w.heap.size≤w.heap.size+1; omega) (.int .i64 2);have y2:=C2.out.set (.int .i64 2);generalize w9.setCell ⟨w.heap.size+1,0,none⟩ (.int .i64 2)=dM at *;have KX:=ι hk;have CX:=ι y2;have xh:=ι (show nC n OO RR 2 from .inl ⟨by omega,rfl⟩);clear hk y2;go_wp2;exact jO (ds:=[]) KX.out CX.out xh.out rfl (by simp) (fun D hD=>by simp at hD)
 by_cases Pg:64<n
 ·skip
  go_upto_region 2 with fail
  refine b6<|i8 (d8 (.int .i64 n) ⟨(w.heap.size+2),0,none⟩ (af C3.out.c))<|i8 (d9 (.bool false) .lss (h:=aL _ d6))<|i7 rfl<|i8 (d8 (.int .i64 n) ⟨(w.heap.size+2),0,none⟩ (af C3.out.c)) ?_;go_frame
  refine i8 (d9 (.bool true) .gtr (h:=cw _ d5))<|i8 (f4 (.bool true)) ?_;go_frame
  go_upto_region 3 with fail
  refine b6<|Rg.aF none rfl rfl (Rg.az _ _ _ rfl _ rfl _ rfl (ef 2 C2.out.c C2.out.f)) ?_;go_frame
  have hk:=K.out.setCell (p:=⟨w.heap.size+1,0,none⟩) (by show w.heap.size≤w.heap.size+1; omega) (.int .i64 2);have y2:=C2.out.set (.int .i64 2);generalize w9.setCell ⟨w.heap.size+1,0,none⟩ (.int .i64 2)=dM at *;have KX:=ι hk;have CX:=ι y2;have xh:=ι (show nC n OO RR 2 from .inl ⟨by omega,rfl⟩);clear hk y2;go_wp2;exact jO (ds:=[]) KX.out CX.out xh.out rfl (by simp) (fun D hD=>by simp at hD)
 go_upto_region 2 with fail
 refine b6<|i8 (d8 (.int .i64 n) ⟨(w.heap.size+2),0,none⟩ (af C3.out.c))<|i8 (d9 (.bool false) .lss (h:=aL _ d6))<|i7 rfl<|i8 (d8 (.int .i64 n) ⟨(w.heap.size+2),0,none⟩ (af C3.out.c)) ?_;go_frame
 refine i8 (d9 (.bool false) .gtr (h:=cw _ d6))<|i8 (f4 (.bool false)) ?_;go_frame
 by_cases nX:(OO.length:Int)=n
 case neg =>
  skip
  go_upto_region 4 with fail
  refine b6<|i8 (g8 (cq _ _))<|i8 (d8 (.slice oa OO.length oc) ⟨w.heap.size,1,none⟩ (Rg.ae _ _ Tryz.underlying51 A1.out.cell))<|i8 (e8 Tryz.underlying51)<|i8 (d8 (.int .i64 n) ⟨(w.heap.size+2),0,none⟩ (af C3.out.c)) ?_;go_frame
  refine i8 (d9 (.bool true) .neq (h:=ax _ d5))<|i7 rfl<|d7 23<|d7 24<|d7 25 ?_;go_frame
  refine d7 26<|d7 27<|i8 (f7 (.bool true)) ?_;go_frame
  go_upto_region 5 with fail
  refine b6<|Rg.aF none rfl rfl (Rg.az _ _ _ rfl _ rfl _ rfl (ef 3 C2.out.c C2.out.f)) ?_;go_frame
  have hk:=K.out.setCell (p:=⟨w.heap.size+1,0,none⟩) (by show w.heap.size≤w.heap.size+1; omega) (.int .i64 3);have y2:=C2.out.set (.int .i64 3);generalize w9.setCell ⟨w.heap.size+1,0,none⟩ (.int .i64 3)=dM at *;have KX:=ι hk;have CX:=ι y2;have xh:=ι (show nC n OO RR 3 from .inr ⟨by omega,.inr ⟨fun hh=>nX hh.lens.1,rfl⟩⟩);clear hk y2;go_wp2;exact jO (ds:=[]) KX.out CX.out xh.out rfl (by simp) (fun D hD=>by simp at hD)
 by_cases rY:(RR.length:Int)=n
 case neg =>
  skip
  go_upto_region 4 with fail
  refine b6<|i8 (g8 (cq _ _))<|i8 (d8 (.slice oa OO.length oc) ⟨w.heap.size,1,none⟩ (Rg.ae _ _ Tryz.underlying51 A1.out.cell))<|i8 (e8 Tryz.underlying51)<|i8 (d8 (.int .i64 n) ⟨(w.heap.size+2),0,none⟩ (af C3.out.c)) ?_;go_frame
  refine i8 (d9 (.bool false) .neq (h:=ax _ d6))<|i7 rfl<|i8 (g8 (dE _ _))<|i8 (d8 (.slice ra RR.length rc) ⟨w.heap.size,2,none⟩ (Rg.ae _ _ Tryz.underlying52 A2.out.cell))<|i8 (e8 Tryz.underlying52) ?_;go_frame
  refine i8 (d8 (.int .i64 n) ⟨(w.heap.size+2),0,none⟩ (af C3.out.c))<|i8 (d9 (.bool true) .neq (h:=ax _ d5))<|i8 (f4 (.bool true)) ?_;go_frame
  go_upto_region 5 with fail
  refine b6<|Rg.aF none rfl rfl (Rg.az _ _ _ rfl _ rfl _ rfl (ef 3 C2.out.c C2.out.f)) ?_;go_frame
  have hk:=K.out.setCell (p:=⟨w.heap.size+1,0,none⟩) (by show w.heap.size≤w.heap.size+1; omega) (.int .i64 3);have y2:=C2.out.set (.int .i64 3);generalize w9.setCell ⟨w.heap.size+1,0,none⟩ (.int .i64 3)=dM at *;have KX:=ι hk;have CX:=ι y2;have xh:=ι (show nC n OO RR 3 from .inr ⟨by omega,.inr ⟨fun hh=>rY hh.lens.2,rfl⟩⟩);clear hk y2;go_wp2;exact jO (ds:=[]) KX.out CX.out xh.out rfl (by simp) (fun D hD=>by simp at hD)
 go_upto_region 4 with fail
 refine b6<|i8 (g8 (cq _ _))<|i8 (d8 (.slice oa OO.length oc) ⟨w.heap.size,1,none⟩ (Rg.ae _ _ Tryz.underlying51 A1.out.cell))<|i8 (e8 Tryz.underlying51)<|i8 (d8 (.int .i64 n) ⟨(w.heap.size+2),0,none⟩ (af C3.out.c)) ?_;go_frame
 refine i8 (d9 (.bool false) .neq (h:=ax _ d6))<|i7 rfl<|i8 (g8 (dE _ _))<|i8 (d8 (.slice ra RR.length rc) ⟨w.heap.size,2,none⟩ (Rg.ae _ _ Tryz.underlying52 A2.out.cell))<|i8 (e8 Tryz.underlying52) ?_;go_frame
 refine i8 (d8 (.int .i64 n) ⟨(w.heap.size+2),0,none⟩ (af C3.out.c))<|i8 (d9 (.bool false) .neq (h:=ax _ d6))<|i8 (f4 (.bool false)) ?_;go_frame
 obtain ⟨N,rfl⟩:∃ N:Nat,n=N:=⟨n.toNat,by omega⟩
 have dT:1≤N:=by omega
 have sf:N≤64:=by omega
 have Zq:=ι (show OO.length=N by omega);have SD:=ι (show RR.length=N by omega);clear nX rY Pf Pg;go_upto_region 6 with fail;refine b6 ?_;have tR:=CW.new w9 (.slice none 0 0) 22
 have hs:(w9.alloc (.cells #[.slice none 0 0] 22)).heap.size=w9.heap.size+1:=by simp
 refine i8 (yH rfl) ?_;go_frame;have hb:=(Below.refl w9.heap.size w9).alloc (Nat.le_refl _) (.cells #[.slice none 0 0] 22);generalize w9.alloc (.cells #[.slice none 0 0] 22)=vd at *;replace A0:=ι (A0.out.below hb);replace A1:=ι (A1.out.below hb);replace A2:=ι (A2.out.below hb);replace C2:=ι (C2.out.below hb);replace C3:=ι (C3.out.below hb);replace K:=ι (Rg.acc K.out hb);clear hb;rw [Wg] at tR ⊢
 have Dj:vd.heap.size=w.heap.size+4:=by omega
 have C4:=ι tR;clear tR hs;have CI:=ι (show u_ w ((N:Nat):Int) (.slice oa OO.length oc) (.slice ra RR.length rc) vd (.slice none 0 0) [] from ⟨K.out,A0.out,A1.out,A2.out,C2.out,C3.out,C4.out,dw.nil _ (by omega)⟩);have AG:=ι Dj;clear A0 A1 A2 C2 C3 C4 s7 ky Zo Wg Dj;go_upto_region 7 with fail
 refine b6<|i8 (d8 ((.agg #[.int .i64 ((N:Nat):Int),.slice oa OO.length oc,.slice ra RR.length rc])) ⟨w.heap.size,0,none⟩ (bh CI.out.a0.cell CI.out.a1.cell CI.out.a2.cell)) ?_;go_frame
 refine d4 30 (aq 89 _ _ rfl rfl (SB _ _)) ?_;refine (JD _ _ _ vd).mono ?_;rintro e1 gC ⟨fb,rfl,Fw,hb⟩;have dn:=hb.size;refine ⟨_,rfl,?_⟩;go_frame;replace CI:=ι (CI.out.below hb);replace K:=ι (Rg.acc K.out hb);clear hb;have FB:=ι Fw;clear Fw;have qt:=ι (show w.heap.size+4≤gC.heap.size by have:=AG.out; omega);clear dn;obtain ⟨us,jV,kZ,Wh⟩:=HR.out;have Zr:=ι Wh
 have JH:JE w.heap.size gC ra RR.length (fun k=>us[k]?.getD undef):=by
  obtain ⟨a',c',e,q1,q2,q3,q4⟩:=jV
  injection e with e1 e2 e3
  refine ⟨by omega,fun h0=>?_,fun b off e5 j hj=>?_,K.out.size⟩
  ·obtain ⟨b,o,e4,e5,_⟩:=q4 (by omega)
   exact ⟨b,o,e1.trans e4,e5⟩
  ·obtain ⟨b',o',e4,e6,e7⟩:=q4 (by omega)
   rw [e1,e4] at e5;simp only [Option.some.injEq,Addr.mk.injEq,and_true] at e5;obtain ⟨rfl,rfl⟩:=e5;rw [(K.out.cell (p:=⟨b',o'+j,none⟩) e6)];show _=some (us[j]?.getD undef);rw [List.getElem?_eq_getElem (by omega)];exact e7 j (by omega)
 have SE:=ι JH;have tS:=ι kZ;clear jV JH kZ Wh;go_wp2
 refine Dh rfl FB.out SE.out rfl (fun pre W=>∃ v gs,u_ w ((N:Nat):Int) (.slice oa OO.length oc) (.slice ra RR.length rc) W v gs∧gs.map Ma.ah=pre.flatMap (rowOf RR)∧(∀ g∈gs,Cm.Gd N g)∧gs.length≤64*pre.length)
  (fun c pre W=>c=.ret∧Below w.heap.size w W∧CW W (w.heap.size+1) (.int .i64 3)∧¬ fh ((N:Nat):Int) OO RR) ?hI ?hIx ⟨_,[],CI.out,rfl,fun g hg=>by simp at hg,Nat.zero_le _⟩ ?a1 ?assign ?body ?done ?stop
 case assign =>
  intro l x W K hK
  gi_wp2
  exact hK
 case hI =>
  rintro pre W W' row ⟨v,gs,h1,h2⟩ hg hr;exact ⟨v,gs,h1.keep (by have:=qt.out; omega) hg hr,h2⟩
 case hIx =>
  rintro c pre W W' row ⟨rfl,h1,h2,h3⟩ hg hr;exact ⟨rfl,h1.grown hg h1.size (fun k e=>by have:=(hr k e).1; have:=qt.out; omega),h2.kp (Rg.Kp.cH hg (M:=fun k=>row=some k) fun _ e=>e) (fun e=>by have:=(hr _ e).1; have:=qt.out; omega),h3⟩
 case body =>
  rintro l pre ⟨X,hX⟩ W ⟨v,gs,sm,CV,nr,dm⟩ Dk;obtain ⟨B,hB⟩:∃ B,gC.heap.size=B:=⟨_,rfl⟩;rw [hB] at qt ⊢;clear FB SE CI K hB;have CI:=ι sm;have K:=ι sm.jN;have KQ:=ι (KK.refl (B:=B) (n₀:=w.heap.size) (W:=W) sm.jN.size);have Az:=ι CV;have yI:=ι nr
  have Wi:=ι (show gs.length≤64*64 by
   have:pre.length<64:=by have:=SD.out; omega
   omega)
  have Dl:=ι hX;have Wj:=ι dm;have pS:=ι (show X<OO.length by have:=Zq.out; have:=SD.out; omega);clear sm CV nr dm;have hu:=Zr.out X (by rw [tS.out]; exact hX) hX
  have e1:us[X]?.getD undef=us[X]'(by rw [tS.out]; exact hX):=by rw [List.getElem?_eq_getElem (by rw [tS.out]; exact hX)]; rfl
  rw [← e1] at hu
  dsimp only
  generalize us[X]?.getD undef=u at *;clear e1;obtain ⟨r,hr⟩:∃ r:List (List Int),Hid (RR[X]'hX=r):=⟨_,ι rfl⟩
  replace hu:Rg.Rows w u r:=by rw [← hr.out]; exact hu
  obtain ⟨ua,uc,rfl,_,mT,_,Wk⟩:=hu.shape;have Zs:=ι Wk;obtain ⟨o',Rw⟩:∃ o:List Int,Hid (OO[X]'pS.out=o):=⟨_,ι rfl⟩;have qF:=HO.out.shape;obtain ⟨oa',Pj,e2,_,_,_,qF⟩:=qF
  injection e2 with e3 _ e5
  subst e3 e5;obtain ⟨ob,oo,rfl,uT,qF⟩:=qF (by have:=pS.out; omega);obtain ⟨yv,Wl,SF⟩:=qF X pS.out;rw [show OO[X]=o' from Rw.out] at SF;obtain ⟨ya,yc,rfl,_⟩:=SF.shape;have CO:=ι (CL.mk Wl uT);clear Wk qF Wl SF uT hu
  by_cases Vy:(r.length:Int)=(o'.length:Int)
  case neg =>
   skip
   gi_upto_region 10 with fail
   refine wpIn_region_list ?_;refine Rg.aU (some 33) rfl rfl (fun _ hh=>by cases hh) (a8 (.slice ua r.length uc) _ rfl rfl) ?_;go_frame;refine Rg.aU (some 34) rfl rfl (fun _ hh=>by cases hh) (e8 Tryz.underlying22) ?_;go_frame;refine Rg.aU (some 35) rfl rfl (fun _ hh=>by cases hh) (g8 (cq _ _)) ?_;go_frame;refine Rg.aU (some 36) rfl rfl (fun _ hh=>by cases hh) (d8 (.slice (some ⟨ob,oo,none⟩) OO.length oc) ⟨w.heap.size,1,none⟩ (Rg.ae _ _ Tryz.underlying51 CI.out.a1.cell)) ?_;go_frame;refine Rg.aU (some 37) rfl rfl (fun _ hh=>by cases hh) (a8 (.int .i64 ((X:Nat):Int)) _ rfl rfl) ?_;go_frame;refine Rg.aU (some 38) rfl rfl (fun _ hh=>by cases hh) (ag bF _ _ rfl ob (oo) (OO.length) oc (X) rfl rfl pS.out) ?_;go_frame;refine Rg.aU (some 39) rfl rfl (fun _ hh=>by cases hh) (d8 (.slice ya o'.length yc) ⟨ob,oo+X,none⟩ (Rg.ae _ _ Tryz.underlying25 ((Below.cell (p:=⟨ob,oo+X,none⟩) K.out CO.out.lt).trans CO.out.cell))) ?_;go_frame
   refine Rg.aU (some 40) rfl rfl (fun _ hh=>by cases hh) (e8 Tryz.underlying25) ?_;go_frame;refine Rg.aU (some 41) rfl rfl (fun _ hh=>by cases hh) (d9 (.bool true) .neq (h:=ax _ d5)) ?_;go_frame;refine Rg.aU (some 42) rfl rfl (fun _ hh=>by cases hh) (a8 (.bool true) _ rfl rfl) ?_;go_frame;refine Rg.hJ (some 43) (by kernel_rfl) rfl ?_;go_frame;refine Rg.hJ (some 44) (by kernel_rfl) rfl ?_;go_frame;refine Rg.hJ (some 45) (by kernel_rfl) rfl ?_;go_frame;refine Rg.hJ (some 46) (by kernel_rfl) rfl ?_;go_frame;refine Rg.hJ (some 47) (by kernel_rfl) rfl ?_;go_frame;refine Rg.hJ (some 48) (by kernel_rfl) rfl ?_;go_frame;refine Rg.aU (some 49) rfl rfl (fun _ hh=>by cases hh) (f7 (.bool true)) ?_;go_frame
   gi_upto_region 11 with fail
   refine wpIn_region_list ?_;refine Rg.o5 none rfl rfl (fun _ hh=>by cases hh) (Rg.az _ _ _ rfl _ rfl _ rfl (ef 3 CI.out.c2.c CI.out.c2.f)) ?_;go_frame;have hk:=K.out.setCell (p:=⟨w.heap.size+1,0,none⟩) (by show w.heap.size≤w.heap.size+1; omega) (.int .i64 3);have y2:=CI.out.c2.set (.int .i64 3);have hq:=KQ.out.set (b:=w.heap.size+1) (o:=0) (.int .i64 3) (by omega);generalize W.setCell ⟨w.heap.size+1,0,none⟩ (.int .i64 3)=dM at *;have KX:=ι hk;have CX:=ι y2;have QX:=ι hq;have nE:=ι (show ¬ fh ((N:Nat):Int) OO RR from fun hh=>by have:=(hh.row Dl.out pS.out).1; rw [show RR[X]=r from hr.out,show OO[X]=o' from Rw.out] at this; omega);clear hk y2 hq
   gi_wp2
   exact ⟨QX.out.keeps,rfl,KX.out,CX.out,nE.out⟩
  by_cases gV:(N:Int) - (X:Int)<(r.length:Int)
  case pos =>
   skip
   gi_upto_region 10 with fail
   refine wpIn_region_list ?_;refine Rg.aU (some 33) rfl rfl (fun _ hh=>by cases hh) (a8 (.slice ua r.length uc) _ rfl rfl) ?_;go_frame;refine Rg.aU (some 34) rfl rfl (fun _ hh=>by cases hh) (e8 Tryz.underlying22) ?_;go_frame;refine Rg.aU (some 35) rfl rfl (fun _ hh=>by cases hh) (g8 (cq _ _)) ?_;go_frame;refine Rg.aU (some 36) rfl rfl (fun _ hh=>by cases hh) (d8 (.slice (some ⟨ob,oo,none⟩) OO.length oc) ⟨w.heap.size,1,none⟩ (Rg.ae _ _ Tryz.underlying51 CI.out.a1.cell)) ?_;go_frame;refine Rg.aU (some 37) rfl rfl (fun _ hh=>by cases hh) (a8 (.int .i64 ((X:Nat):Int)) _ rfl rfl) ?_;go_frame;refine Rg.aU (some 38) rfl rfl (fun _ hh=>by cases hh) (ag bF _ _ rfl ob (oo) (OO.length) oc (X) rfl rfl pS.out) ?_;go_frame;refine Rg.aU (some 39) rfl rfl (fun _ hh=>by cases hh) (d8 (.slice ya o'.length yc) ⟨ob,oo+X,none⟩ (Rg.ae _ _ Tryz.underlying25 ((Below.cell (p:=⟨ob,oo+X,none⟩) K.out CO.out.lt).trans CO.out.cell))) ?_;go_frame
   refine Rg.aU (some 40) rfl rfl (fun _ hh=>by cases hh) (e8 Tryz.underlying25) ?_;go_frame;refine Rg.aU (some 41) rfl rfl (fun _ hh=>by cases hh) (d9 (.bool false) .neq (h:=ax _ d6)) ?_;go_frame;refine Rg.aU (some 42) rfl rfl (fun _ hh=>by cases hh) (a8 (.bool false) _ rfl rfl) ?_;go_frame;refine Rg.dW (some 43) rfl rfl (fun _ hh=>by cases hh) (a8 (.slice ua r.length uc) _ rfl rfl) ?_;go_frame;refine Rg.dW (some 44) rfl rfl (fun _ hh=>by cases hh) (e8 Tryz.underlying22) ?_;go_frame;refine Rg.dW (some 45) rfl rfl (fun _ hh=>by cases hh) (d8 (.int .i64 ((N:Nat):Int)) ⟨(w.heap.size+2),0,none⟩ (af CI.out.c3.c)) ?_;go_frame;refine Rg.dW (some 46) rfl rfl (fun _ hh=>by cases hh) (a8 (.int .i64 ((X:Nat):Int)) _ rfl rfl) ?_;go_frame;refine Rg.dW (some 47) rfl rfl (fun _ hh=>by cases hh) (d9 (.int .i64 ((N:Int) - (X:Int))) .sub (h:=kP _ (by omega) (by omega))) ?_;go_frame
   refine Rg.dW (some 48) rfl rfl (fun _ hh=>by cases hh) (d9 (.bool true) .gtr (h:=cw _ d5)) ?_;go_frame;refine Rg.aU (some 49) rfl rfl (fun _ hh=>by cases hh) (f4 (.bool true)) ?_;go_frame
   gi_upto_region 11 with fail
   refine wpIn_region_list ?_;refine Rg.o5 none rfl rfl (fun _ hh=>by cases hh) (Rg.az _ _ _ rfl _ rfl _ rfl (ef 3 CI.out.c2.c CI.out.c2.f)) ?_;go_frame;have hk:=K.out.setCell (p:=⟨w.heap.size+1,0,none⟩) (by show w.heap.size≤w.heap.size+1; omega) (.int .i64 3);have y2:=CI.out.c2.set (.int .i64 3);have hq:=KQ.out.set (b:=w.heap.size+1) (o:=0) (.int .i64 3) (by omega);generalize W.setCell ⟨w.heap.size+1,0,none⟩ (.int .i64 3)=dM at *;have KX:=ι hk;have CX:=ι y2;have QX:=ι hq;have nE:=ι (show ¬ fh ((N:Nat):Int) OO RR from fun hh=>by have:=(hh.row Dl.out pS.out).2; rw [show RR[X]=r from hr.out] at this; omega);clear hk y2 hq
   gi_wp2
   exact ⟨QX.out.keeps,rfl,KX.out,CX.out,nE.out⟩
  gi_upto_region 10 with fail
  refine wpIn_region_list ?_;refine Rg.aU (some 33) rfl rfl (fun _ hh=>by cases hh) (a8 (.slice ua r.length uc) _ rfl rfl) ?_;go_frame;refine Rg.aU (some 34) rfl rfl (fun _ hh=>by cases hh) (e8 Tryz.underlying22) ?_;go_frame;refine Rg.aU (some 35) rfl rfl (fun _ hh=>by cases hh) (g8 (cq _ _)) ?_;go_frame;refine Rg.aU (some 36) rfl rfl (fun _ hh=>by cases hh) (d8 (.slice (some ⟨ob,oo,none⟩) OO.length oc) ⟨w.heap.size,1,none⟩ (Rg.ae _ _ Tryz.underlying51 CI.out.a1.cell)) ?_;go_frame;refine Rg.aU (some 37) rfl rfl (fun _ hh=>by cases hh) (a8 (.int .i64 ((X:Nat):Int)) _ rfl rfl) ?_;go_frame;refine Rg.aU (some 38) rfl rfl (fun _ hh=>by cases hh) (ag bF _ _ rfl ob (oo) (OO.length) oc (X) rfl rfl pS.out) ?_;go_frame;refine Rg.aU (some 39) rfl rfl (fun _ hh=>by cases hh) (d8 (.slice ya o'.length yc) ⟨ob,oo+X,none⟩ (Rg.ae _ _ Tryz.underlying25 ((Below.cell (p:=⟨ob,oo+X,none⟩) K.out CO.out.lt).trans CO.out.cell))) ?_;go_frame
  refine Rg.aU (some 40) rfl rfl (fun _ hh=>by cases hh) (e8 Tryz.underlying25) ?_;go_frame;refine Rg.aU (some 41) rfl rfl (fun _ hh=>by cases hh) (d9 (.bool false) .neq (h:=ax _ d6)) ?_;go_frame;refine Rg.aU (some 42) rfl rfl (fun _ hh=>by cases hh) (a8 (.bool false) _ rfl rfl) ?_;go_frame;refine Rg.dW (some 43) rfl rfl (fun _ hh=>by cases hh) (a8 (.slice ua r.length uc) _ rfl rfl) ?_;go_frame;refine Rg.dW (some 44) rfl rfl (fun _ hh=>by cases hh) (e8 Tryz.underlying22) ?_;go_frame;refine Rg.dW (some 45) rfl rfl (fun _ hh=>by cases hh) (d8 (.int .i64 ((N:Nat):Int)) ⟨(w.heap.size+2),0,none⟩ (af CI.out.c3.c)) ?_;go_frame;refine Rg.dW (some 46) rfl rfl (fun _ hh=>by cases hh) (a8 (.int .i64 ((X:Nat):Int)) _ rfl rfl) ?_;go_frame;refine Rg.dW (some 47) rfl rfl (fun _ hh=>by cases hh) (d9 (.int .i64 ((N:Int) - (X:Int))) .sub (h:=kP _ (by omega) (by omega))) ?_;go_frame
  refine Rg.dW (some 48) rfl rfl (fun _ hh=>by cases hh) (d9 (.bool false) .gtr (h:=cw _ d6)) ?_;go_frame;refine Rg.aU (some 49) rfl rfl (fun _ hh=>by cases hh) (f4 (.bool false)) ?_;go_frame;have tO:=ι (show gs.map Ma.ah=gs.map Ma.ah++r.take 0 by simp);have Ao:=ι (show gs.length≤gs.length+0 from Nat.le_refl _)
  gi_wp2
  gi_loopw [52] (fun jv wr=>∃ (j:Nat) (v:Value) (gs':List (List Nat)),jv=.int .i64 j∧j≤r.length∧Hid (u_ w ((N:Nat):Int) (.slice (some ⟨ob,oo,none⟩) OO.length oc) (.slice ra RR.length rc) wr v gs')∧Hid (KK B w.heap.size W wr)∧Hid (gs'.map Ma.ah=gs.map Ma.ah++r.take j)∧Hid (∀ g∈gs',Cm.Gd N g)∧Hid (gs'.length≤gs.length+j)) (fun jv _=>r.length - (intOf jv).toNat)
  case atStart=>exact ⟨0,_,_,rfl,Nat.zero_le _,CI,KQ,tO,yI,Ao⟩
  case round =>
   clear CI KQ tO yI Ao K;obtain ⟨j,v,gs',rfl,hj,CI,KQ,tO,yI,Ao⟩:=hrel;have K:=ι CI.out.jN;obtain ⟨va,vc,Pk⟩:=CI.out.row.shape;subst Pk
   by_cases C9:j<r.length
   ·have Jn:(j:Int)<(r.length:Int):=by omega
    have C_:=ι C9;obtain ⟨ub,uo,rfl,Dm,wL⟩:=Zs.out (by omega);obtain ⟨xv,FE,eB⟩:=wL j C9;obtain ⟨x,hx⟩:∃ x:List Int,Hid (r[j]'C9=x):=⟨_,ι rfl⟩
    replace eB:Rg.Ints w xv x:=by rw [← hx.out]; exact eB
    obtain ⟨xa,xc,rfl,_⟩:=eB.shape
    have qC:x.length≤1000000000:=by obtain ⟨m',a',c',e',_,Sf⟩:=eB.len; omega
    have CX:=ι (CL.mk FE Dm);have XU:=ι eB;have qG:=ι (show x∈RR[X]'Dl.out by rw [show RR[X]'Dl.out=r from hr.out,← hx.out]; exact List.getElem_mem C9);have SG:=ι (show gs'.length<1000000 by have:=Ao.out; have:=Wi.out; omega);clear wL FE eB Dm
    gi_upto_region 14 with fail
    refine wpIn_region_list ?_;refine Rg.aU (some 54) rfl rfl (fun _ hh=>by cases hh) (ag aE _ _ rfl ub (uo) (r.length) uc (j) rfl rfl C_.out) ?_;go_frame;refine Rg.aU (some 55) rfl rfl (fun _ hh=>by cases hh) (d8 (.slice xa x.length xc) ⟨ub,uo+j,none⟩ (Rg.ae _ _ Tryz.underlying26 ((Below.cell (p:=⟨ub,uo+j,none⟩) K.out CX.out.lt).trans CX.out.cell))) ?_;go_frame;refine Rg.aU (some 8) rfl rfl (fun _ hh=>by cases hh) (b5 (.slice xa x.length xc) _ rfl rfl) ?_;go_frame
    by_cases L_:(x.length:Int)=(N:Int)
    case neg =>
     skip
     gi_upto_region 15 with fail
     refine wpIn_region_list ?_;refine Rg.aU (some 56) rfl rfl (fun _ hh=>by cases hh) (a8 (.slice xa x.length xc) _ rfl rfl) ?_;go_frame;refine Rg.aU (some 57) rfl rfl (fun _ hh=>by cases hh) (e8 Tryz.underlying26) ?_;go_frame;refine Rg.aU (some 58) rfl rfl (fun _ hh=>by cases hh) (d8 (.int .i64 ((N:Nat):Int)) ⟨(w.heap.size+2),0,none⟩ (af CI.out.c3.c)) ?_;go_frame;refine Rg.aU (some 59) rfl rfl (fun _ hh=>by cases hh) (d9 (.bool true) .neq (h:=ax _ d5)) ?_;go_frame;refine Rg.aU (some 60) rfl rfl (fun _ hh=>by cases hh) (a8 (.bool true) _ rfl rfl) ?_;go_frame;refine Rg.hJ (some 61) (by kernel_rfl) rfl ?_;go_frame;refine Rg.hJ (some 62) (by kernel_rfl) rfl ?_;go_frame;refine Rg.hJ (some 63) (by kernel_rfl) rfl ?_;go_frame;refine Rg.aU (some 64) rfl rfl (fun _ hh=>by cases hh) (f7 (.bool true)) ?_;go_frame
     gi_upto_region 16 with fail
     refine wpIn_region_list ?_;refine Rg.o5 none rfl rfl (fun _ hh=>by cases hh) (Rg.az _ _ _ rfl _ rfl _ rfl (ef 3 CI.out.c2.c CI.out.c2.f)) ?_;go_frame;have hk:=K.out.setCell (p:=⟨w.heap.size+1,0,none⟩) (by show w.heap.size≤w.heap.size+1; omega) (.int .i64 3);have y2:=CI.out.c2.set (.int .i64 3);have hq:=KQ.out.set (b:=w.heap.size+1) (o:=0) (.int .i64 3) (by omega);generalize wr.setCell ⟨w.heap.size+1,0,none⟩ (.int .i64 3)=dM at *;have KX:=ι hk;have CX:=ι y2;have QX:=ι hq;have nE:=ι (show ¬ fh ((N:Nat):Int) OO RR from fun hh=>L_ (hh.perm Dl.out qG.out).1);clear hk y2 hq
     gi_wp2
     exact ⟨QX.out.keeps,rfl,KX.out,CX.out,nE.out⟩
    by_cases uX:Ma.cj x=0
    case neg =>
     skip
     gi_upto_region 15 with fail
     refine wpIn_region_list ?_;refine Rg.aU (some 56) rfl rfl (fun _ hh=>by cases hh) (a8 (.slice xa x.length xc) _ rfl rfl) ?_;go_frame;refine Rg.aU (some 57) rfl rfl (fun _ hh=>by cases hh) (e8 Tryz.underlying26) ?_;go_frame;refine Rg.aU (some 58) rfl rfl (fun _ hh=>by cases hh) (d8 (.int .i64 ((N:Nat):Int)) ⟨(w.heap.size+2),0,none⟩ (af CI.out.c3.c)) ?_;go_frame;refine Rg.aU (some 59) rfl rfl (fun _ hh=>by cases hh) (d9 (.bool false) .neq (h:=ax _ d6)) ?_;go_frame;refine Rg.aU (some 60) rfl rfl (fun _ hh=>by cases hh) (a8 (.bool false) _ rfl rfl) ?_;go_frame;refine Rg.dW (some 61) rfl rfl (fun _ hh=>by cases hh) (a8 (.slice xa x.length xc) _ rfl rfl) ?_;go_frame;refine Rg.Df (some 62) rfl rfl (fun _ hh=>by cases hh) _ _ (aq 53 _ _ rfl rfl (FA _ _)) ?_;refine (fp _ _ wr (XU.out.below K.out)).mono ?_
     rintro e1 lX ⟨rfl,hb⟩;refine ⟨_,rfl,?_⟩;go_frame;replace CI:=ι (CI.out.below hb);replace KQ:=ι (KQ.out.below hb);replace K:=ι (Rg.acc K.out hb);clear hb;refine Rg.dW (some 63) rfl rfl (fun _ hh=>by cases hh) (d9 (.bool true) .neq (h:=ax _ (decide_eq_true uX))) ?_;go_frame;refine Rg.aU (some 64) rfl rfl (fun _ hh=>by cases hh) (f4 (.bool true)) ?_;go_frame
     gi_upto_region 16 with fail
     refine wpIn_region_list ?_;refine Rg.o5 none rfl rfl (fun _ hh=>by cases hh) (Rg.az _ _ _ rfl _ rfl _ rfl (ef 3 CI.out.c2.c CI.out.c2.f)) ?_;go_frame;have hk:=K.out.setCell (p:=⟨w.heap.size+1,0,none⟩) (by show w.heap.size≤w.heap.size+1; omega) (.int .i64 3);have y2:=CI.out.c2.set (.int .i64 3);have hq:=KQ.out.set (b:=w.heap.size+1) (o:=0) (.int .i64 3) (by omega);generalize lX.setCell ⟨w.heap.size+1,0,none⟩ (.int .i64 3)=dM at *;have KX:=ι hk;have CX:=ι y2;have QX:=ι hq;have nE:=ι (show ¬ fh ((N:Nat):Int) OO RR from fun hh=>uX (hh.perm Dl.out qG.out).2);clear hk y2 hq
     gi_wp2
     exact ⟨QX.out.keeps,rfl,KX.out,CX.out,nE.out⟩
    gi_upto_region 15 with fail
    refine wpIn_region_list ?_;refine Rg.aU (some 56) rfl rfl (fun _ hh=>by cases hh) (a8 (.slice xa x.length xc) _ rfl rfl) ?_;go_frame;refine Rg.aU (some 57) rfl rfl (fun _ hh=>by cases hh) (e8 Tryz.underlying26) ?_;go_frame;refine Rg.aU (some 58) rfl rfl (fun _ hh=>by cases hh) (d8 (.int .i64 ((N:Nat):Int)) ⟨(w.heap.size+2),0,none⟩ (af CI.out.c3.c)) ?_;go_frame;refine Rg.aU (some 59) rfl rfl (fun _ hh=>by cases hh) (d9 (.bool false) .neq (h:=ax _ d6)) ?_;go_frame;refine Rg.aU (some 60) rfl rfl (fun _ hh=>by cases hh) (a8 (.bool false) _ rfl rfl) ?_;go_frame;refine Rg.dW (some 61) rfl rfl (fun _ hh=>by cases hh) (a8 (.slice xa x.length xc) _ rfl rfl) ?_;go_frame;refine Rg.Df (some 62) rfl rfl (fun _ hh=>by cases hh) _ _ (aq 53 _ _ rfl rfl (FA _ _)) ?_;refine (fp _ _ wr (XU.out.below K.out)).mono ?_
    rintro e1 lX ⟨rfl,hb⟩;refine ⟨_,rfl,?_⟩;go_frame;replace CI:=ι (CI.out.below hb);replace KQ:=ι (KQ.out.below hb);replace K:=ι (Rg.acc K.out hb);clear hb;refine Rg.dW (some 63) rfl rfl (fun _ hh=>by cases hh) (d9 (.bool false) .neq (h:=ax _ (decide_eq_false (fun e=>e uX)))) ?_;go_frame;refine Rg.aU (some 64) rfl rfl (fun _ hh=>by cases hh) (f4 (.bool false)) ?_;go_frame;obtain ⟨q,SH,Lk⟩:=Ma.mn (Ma.jC uX).2.2;have Zt:=ι (show Cm.Gd N q from ⟨Lk,by have:=congrArg List.length SH; rw [Ma.aG] at this; omega⟩);have Wm:=ι SH;have JI:=ι (show FP (fun k=>k<w.heap.size) w (.slice xa x.length xc) q from FP.EN (show Rg.NP w _ q by unfold Rg.NP; rw [← Wm.out]; exact XU.out));clear SH Lk uX
    gi_upto_region 17 with fail
    refine wpIn_region_list ?_;refine Rg.aU (some 65) rfl rfl (fun _ hh=>by cases hh) (d8 (.slice va gs'.length vc) ⟨(w.heap.size+3),0,none⟩ (Rg.ae _ _ Tryz.underlying22 CI.out.c4.c)) ?_;go_frame;refine Rg.aU (some 66) rfl rfl (fun _ hh=>by cases hh) (a8 (.slice xa x.length xc) _ rfl rfl) ?_;go_frame;refine Rg.aU (some 67) rfl rfl (fun _ hh=>by cases hh) (Rg.aC _ _ _ rfl (.slice xa x.length xc) rfl (dI lX _ ⟨_,_,_,rfl⟩)) ?_;go_frame;obtain ⟨a9,c9,X9,r1,r2,r3,r4⟩:=CI.out.row.Mn (fun k hk=>by omega) (JI.out.below K.out) ⟨_,_,_,rfl⟩ SG.out 22;have lf:=r3 (Nat.le_refl _) (Below.refl _ _);refine Rg.aU (some 68) rfl rfl (fun _ hh=>by cases hh) (Rg.aP _ _ _ rfl rfl rfl r1) ?_;go_frame;have SJ:=CI.out.c4.upto lf (by omega);refine Rg.o5 none rfl rfl (fun _ hh=>by cases hh) (Rg.az _ _ _ rfl _ rfl _ rfl (Rg.cn _ gO SJ.c SJ.f)) ?_;go_frame
    have Qw:=CI.out.store lf r2;have Ll:KK B w.heap.size W (X9.setCell ⟨w.heap.size+3,0,none⟩ (.slice a9 (gs'.length+1) c9)):=(KQ.out.row r4 CI.out.row (by omega)).set _ (by omega);generalize X9.setCell ⟨w.heap.size+3,0,none⟩ (.slice a9 (gs'.length+1) c9)=Zu at *;have Zv:=ι Qw;have Zw:=ι Ll
    have FF:=ι (show (gs'++[q]).map Ma.ah=gs.map Ma.ah++r.take (j+1) by
     rw [List.map_append,tO.out,List.take_succ_eq_append_getElem C_.out,show r[j]=x from hx.out,Wm.out,List.append_assoc]; rfl)
    have Wn:=ι (show ∀ g∈gs'++[q],Cm.Gd N g from fun g hg=>by
     rcases List.mem_append.1 hg with hg | hg
     ·exact yI.out g hg
     ·rw [List.mem_singleton] at hg; rw [hg]; exact Zt.out)
    have Fh:=ι (show (gs'++[q]).length≤gs.length+(j+1) by rw [List.length_append]; have:=Ao.out; simp; omega);clear Qw Ll r1 r2 r3 r4 lf SJ
    gi_wp2
    go_roundw
    case rel=>exact ⟨j+1,_,_,by go_num,C_.out,Zv,Zw,FF,Wn,Fh⟩
    case measure=>simp [intOf]; have:=C_.out; omega
   ·obtain rfl:j=r.length:=by omega
    have Jn:¬ (r.length:Int)<(r.length:Int):=by omega
    have Wo:=ι (show gs'.map Ma.ah=(pre++[⟨X,Dl.out⟩]:List (Fin RR.length)).flatMap (rowOf RR) by
     have e:=tO.out;rw [List.take_length] at e;rw [e,Az.out,List.flatMap_append];simp only [List.flatMap_cons,List.flatMap_nil,List.append_nil]
     exact congrArg (pre.flatMap (rowOf RR)++·) ((eN Dl.out).trans hr.out).symm)
    have Wp:=ι (show gs'.length≤64*(pre.length+1) by have:=Ao.out; have:=Wj.out; omega)
    gi_wp2
    exact ⟨KQ.out.keeps,KQ.out.jN,_,_,CI.out,Wo.out,yI.out,by rw [List.length_append]; exact Wp.out⟩
 case stop =>
  rintro D c pre W hD ⟨rfl,h1,h2,h3⟩ hd;go_wp2;exact jO (ds:=[D]) h1 h2 (.inr ⟨by omega,.inr ⟨h3,rfl⟩⟩) rfl (by simp) (fun D' u7=>by simp at u7; subst u7; exact ⟨hd,by have:=qt.out; omega⟩)
 case done =>
  rintro D Wd hD ⟨v,gs,sm,CV,nr,dm⟩ hd;clear FB SE CI K;rw [Di] at CV;have HD:=ι (show w.heap.size≤D by have:=qt.out; omega);have DF:=ι hd;have CI:=ι sm;have K:=ι sm.jN;have Az:=ι CV;have yI:=ι nr;have j1:=ι (show gs.length≤1000000 by rw [xd (Nat.le_refl _)] at dm; have:=SD.out; omega);obtain ⟨va,vc,Pk⟩:=sm.row.shape;subst Pk
  have GR:=ι (show Rg.Rows Wd (.slice va gs.length vc) (gs.map Ma.ah) from by
   obtain ⟨us,q1,q2⟩:=sm.row.own
   exact Rg.Rows.cm q1 (by have:=j1.out; omega) q2.1 (fun i a b=>(q2.2 i a b).ints))
  have HH:=ι (show bZ Wd (.slice oa OO.length oc) (.slice ra RR.length rc) OO RR from bZ.upto H.out sm.jN);clear sm CV nr dm hd;go_upto_region 19 with fail;refine Rg.JB ?_;have aw:Below Wd.heap.size Wd Wd.drew:=(Below.refl _ _).drew;replace CI:=ι (CI.out.below aw);replace GR:=ι (GR.out.below aw);replace HH:=ι (HH.out.below aw);replace DF:=ι (DF.out.below aw);replace K:=ι (Rg.acc K.out aw);clear aw;refine Rg.Any.begin (S:=Rg.aH 6 (fun _=>True) (fun W=>Below Wd.drew.heap.size Wd.drew W)) mix ?_;generalize Wd.drew=kA at *;have hS:∀ (l:Array Bool) W,Below kA.heap.size kA W→Rg.aH 6 (fun _=>True) (fun W=>Below kA.heap.size kA W) l W:=fun l W h=>⟨.inr trivial,h⟩;have hI:Below kA.heap.size kA kA:=Below.refl _ _
  refine c7 0 6 ((.agg #[.int .i64 ((N:Nat):Int),.slice oa OO.length oc,.slice ra RR.length rc])) 70 rfl rfl (g6 ⟨w.heap.size,0,none⟩ (fun W hW=>bh ((Below.cell (p:=⟨w.heap.size,0,none⟩) hW CI.out.a0.lt).trans CI.out.a0.cell) ((Below.cell (p:=⟨w.heap.size,1,none⟩) hW CI.out.a1.lt).trans CI.out.a1.cell) ((Below.cell (p:=⟨w.heap.size,2,none⟩) hW CI.out.a2.lt).trans CI.out.a2.cell))) (hS _ _ hI)<|c7 1 6 (.int .i64 ((N:Nat):Int)) 71 rfl rfl (g6 ⟨(w.heap.size+2),0,none⟩ (fun W hW=>af ((Below.cell (p:=⟨(w.heap.size+2),0,none⟩) hW CI.out.c3.lt).trans CI.out.c3.c))) (hS _ _ hI)<|c7 2 6 (.slice va gs.length vc) 72 rfl rfl (g6 ⟨(w.heap.size+3),0,none⟩ (fun W hW=>Rg.ae _ _ Tryz.underlying22 ((Below.cell (p:=⟨(w.heap.size+3),0,none⟩) hW CI.out.c4.lt).trans CI.out.c4.c))) (hS _ _ hI) ?_;go_frame
  refine Rg.Any.one (i:=3) (by kernel_rfl) (Rg.Any.ask (some 73) rfl rfl rfl _ _ (aD 62 _ _ _ rfl rfl rfl (Me _ _)) ?_);refine (Cv dT sf GR.out yI.out j1.out).mono ?_;rintro e1 O9 ⟨tb,L,F1,T1,V1,rfl,wk,ux,uy,Mg,hb⟩;have HB:=ι Mg;have cB:=Rg.acc hI hb;clear hb hI;refine ⟨_,rfl,(hS _ _ cB),?_⟩;go_frame;have HT:=ι wk;have C0:=ι ux;have C1:=ι uy;clear wk ux uy Mg;refine Rg.Any.one (i:=4) (by kernel_rfl) (Rg.Any.ask (some 74) rfl rfl rfl _ _ (aq 63 _ _ rfl rfl (Mf _ _)) ?_);refine (wG dT sf HT.out C0.out C1.out (Cm.Gr.fW yI.out) (HB.out.H8 (by omega) yI.out) (fun j hj=>(HB.out.full j hj).1)).mono ?_;rintro e1 w63 ⟨Pe,rv2,O2,R2,rfl,hO,hR,Cw,hb⟩;have cN:=ι Cw;have yF:=bZ.mk hO.rows hR.rows;clear hO hR Cw;have jl:=Rg.acc cB hb;have qH:=hb;clear hb cB;refine ⟨_,rfl,(hS _ _ jl),?_⟩
  go_frame;have HF:=ι yF;clear yF;obtain ⟨bS,SK⟩:∃ b,Hid (decide (((N:Nat):Int)=((N:Nat):Int)∧OO=O2.map Ma.ah∧RR=R2.map (List.map Ma.ah))=b):=⟨_,ι rfl⟩;refine Rg.Any.one (i:=5) (by kernel_rfl) (Rg.Any.ask (some 75) rfl rfl rfl _ _ (aD 90 _ _ _ rfl rfl rfl (SC _ _)) ?_);refine (JG (HH.out.below jl) HF.out SK).mono ?_;rintro e1 Pl ⟨rfl,hb⟩;have qI:=Rg.acc qH hb;have e_:=Rg.acc jl hb;have xj:=hb;clear hb qH jl;refine ⟨_,rfl,(hS _ _ e_),?_⟩;go_frame;refine g5 6 76 rfl rfl (bE _ _ bS rfl rfl) (hS _ _ e_) ?_;go_frame;refine Rg.Any.done (by kernel_rfl) ?_ _;refine Rg.MN ?_;replace CI:=ι (CI.out.below e_);replace GR:=ι (GR.out.below e_);replace HH:=ι (HH.out.below e_);replace DF:=ι (DF.out.below e_);replace HT:=ι (HT.out.below qI);replace C0:=ι (C0.out.below qI)
  replace C1:=ι (C1.out.below qI);replace HF:=ι (HF.out.below xj);replace K:=ι (Rg.acc K.out e_);clear hS qI e_ xj;have FG:=ι (fh.same (OO:=OO) (RR:=RR) dT sf yI.out Az.out.symm cN.out)
  cases bS with
  | false =>
   have C2:=ι CI.out.c2;go_upto_region 20 with fail
   refine b6<|Rg.aF none rfl rfl (Rg.az _ _ _ rfl _ rfl _ rfl (ef 3 C2.out.c C2.out.f)) ?_;go_frame
   have hk:=K.out.setCell (p:=⟨w.heap.size+1,0,none⟩) (by show w.heap.size≤w.heap.size+1; omega) (.int .i64 3);have y2:=C2.out.set (.int .i64 3);have hdd:=RF.jM.setCell DF.out ⟨w.heap.size+1,0,none⟩ (.int .i64 3);generalize Pl.setCell ⟨w.heap.size+1,0,none⟩ (.int .i64 3)=dM at *;have KX:=ι hk;have CX:=ι y2;have DX:=ι hdd;have xh:=ι (show nC ((N:Nat):Int) OO RR 3 from .inr ⟨by omega,.inr ⟨fun hh=>(of_decide_eq_false SK.out) ⟨rfl,FG.out.1 hh⟩,rfl⟩⟩);clear hk y2 hdd;go_wp2;exact jO (ds:=[D]) KX.out CX.out xh.out rfl (by simp) (fun D' u7=>by simp at u7; subst u7; exact ⟨DX.out,HD.out⟩)
  | true =>
   have C2:=ι CI.out.c2;go_upto_region 21 with fail
   refine b6<|Rg.aF none rfl rfl (Rg.az _ _ _ rfl _ rfl _ rfl (ef 0 C2.out.c C2.out.f)) ?_;go_frame
   have hk:=K.out.setCell (p:=⟨w.heap.size+1,0,none⟩) (by show w.heap.size≤w.heap.size+1; omega) (.int .i64 0);have y2:=C2.out.set (.int .i64 0);have hdd:=RF.jM.setCell DF.out ⟨w.heap.size+1,0,none⟩ (.int .i64 0);generalize Pl.setCell ⟨w.heap.size+1,0,none⟩ (.int .i64 0)=dM at *;have KX:=ι hk;have CX:=ι y2;have DX:=ι hdd;have xh:=ι (show nC ((N:Nat):Int) OO RR 0 from nC.of (FG.out.2 (of_decide_eq_true SK.out).2));clear hk y2 hdd;go_wp2;exact jO (ds:=[D]) KX.out CX.out xh.out rfl (by simp) (fun D' u7=>by simp at u7; subst u7; exact ⟨DX.out,HD.out⟩)
end Go.Proofs.YtbngdgfmlmkgiaaGreat

namespace Go.Proofs.YtbngdgfmlmkgiaaGreat
open Go.RowKit
open Go.Proofs
open Go.Proofs.Ob
attribute [local irreducible] Go.Calls Go.wpList
theorem Iu:(Tryz.prog.info? 5).map (fun i=>(i.zero,i.size,i.bytes))=some (some (.int .u8 0),1,1):=by kernel_rfl
theorem MS:Rg.lU Tryz.prog 80 5 (.int .u8 0) 1:=⟨Tryz.underlying80,Iu,rfl,by decide⟩

theorem AV {o:Oper} {a:Act} {w:World} (x:Operand) (ho:o.op=.convert 3 5 x) {n:Int} (hx:a.eval x=.int .i64 n) (hb:0≤n∧n<256):(execOp a.eval o).run Tryz.prog w=.ok (.value (.int .u8 n)) w:=by
 have e:IntKind.u8.wrap n=n:=by
  have h2:IntKind.u8.wrap n=n % 256:=rfl;rw [h2]; omega
 have h:(convert 3 5 (.int .i64 n)).run Tryz.prog w=.ok (.int .u8 n) w:=by
  simp [convert,run_underlying Tryz.underlying5,run_underlying Tryz.underlying3,Conv.intToInt,e]
 unfold execOp;simp only [ho,hx,Sem.run_bind,Sem.run_pure,h,Result.andThen_ok]
theorem FH {w:World} {u v r:Int} (t:TypeId) (hv:v≠0) (h:u.tmod v=r) (_hb:-9223372036854775808≤r∧r≤9223372036854775807):(binOp .rem t (.int .i64 u) (.int .i64 v)).run Tryz.prog w=.ok (.int .i64 r) w:=by
 simp [binOp,Op.intDiv,hv,h]
end Go.Proofs.YtbngdgfmlmkgiaaGreat

namespace Go.Proofs.YtbngdgfmlmkgiaaGreat
open Go.Proofs
open Go.Proofs.Cm (Gr Gd ar eI kn St Tr Sd Fx ap)
structure TE where
 i:Nat
 p:Nat
 u:List Nat
 w:List Nat
end Go.Proofs.YtbngdgfmlmkgiaaGreat

namespace Go.Proofs.YtbngdgfmlmkgiaaGreat
open Go.RowKit
open Go.Proofs
open Go.Proofs.Ob
attribute [local irreducible] Go.Calls Go.wpList
theorem gD.low {w:World} {v:Value} (h:Rg.gD B w v ll) (hb:Below w.heap.size w w'):Rg.gD B w' v ll:=h.below hb
def bg (d:Int) (ll:List (List Int)):Bool:=lg ll || (decide (12<d) && decide (d≤64))

theorem MT (w:World) (x y:Value) (t:TypeId):CL (w.alloc (.cells #[x,y] t)) w.heap.size 0 x∧CL (w.alloc (.cells #[x,y] t)) w.heap.size 1 y :=
 ⟨⟨by rw [Rg.aM]; rfl,by simp⟩,⟨by rw [Rg.aM]; rfl,by simp⟩⟩
theorem FL {w:World} {a:Option Addr} {c:Nat} {T:List (List Int)} (h:Rg.Rows w (.slice a n c) T) {i:Nat} (hi:i<T.length):∃ b o ua uc,a=some ⟨b,o,none⟩∧b<w.heap.size∧w.cell? ⟨b,o+i,none⟩=some (.slice ua T[i].length uc)∧Rg.Ints w (.slice ua T[i].length uc) T[i]:=by
 obtain ⟨a',c',e,-,-,-,hx⟩:=h.shape;simp only [Value.slice.injEq] at e;obtain ⟨rfl,rfl,rfl⟩:=e;obtain ⟨b,o,e1,e2,e3⟩:=hx (by omega);obtain ⟨u,h1,h2⟩:=e3 i hi;obtain ⟨ua,uc,rfl,-⟩:=h2.shape;exact ⟨b,o,ua,uc,e1,e2,h1,h2⟩
end Go.Proofs.YtbngdgfmlmkgiaaGreat

namespace Go.Proofs.YtbngdgfmlmkgiaaGreat
open Go.RowKit
open Go.Proofs
open Go.Shelf
open Go.Proofs.Cm (Tr)
attribute [local go_sem] Oper.semAt_some
abbrev FM (N:Nat) (tr:Tr):={ q:Nat × Nat // (q.1<q.2∧q.2<N)∧(tr q.1 q.2).isSome=true }
end Go.Proofs.YtbngdgfmlmkgiaaGreat

namespace Go.Proofs.YtbngdgfmlmkgiaaGreat
open Go.RowKit
open Go.Proofs
open Go.Proofs.Ob
open Go.Shelf
open Go.Proofs.Cm (Tr)
attribute [local go_sem] Oper.semAt_some
attribute [local irreducible] Go.Calls Go.wpList Go.wpListIn
def Dn {n:Nat} (tr:Tr) (q:FM n tr):List Nat:=(tr q.1.1 q.1.2).getD []
theorem Dp {tr:Tr} (q:FM n tr):tr q.1.1 q.1.2=some (Dn tr q):=by
 unfold Dn;obtain ⟨u,hu⟩:=Option.isSome_iff_exists.1 q.2.2;rw [hu]; rfl
def o6 (n:Nat) (tr:Tr):Prop:=∀ q r:FM n tr,(Cm.cS n (Cm.cp n tr) n (Ma.aj (Dn tr q) (Dn tr r))).1=n
end Go.Proofs.YtbngdgfmlmkgiaaGreat

namespace Go.Proofs.YtbngdgfmlmkgiaaGreat
open Go.RowKit
open Go.Proofs
open Go.Proofs.Cm (Tr)
attribute [local irreducible] Go.Calls Go.wpList
theorem Iv {gs:List Nat→Prop} {tr:Tr} (h:Cm.cE n gs tr) {i p:Nat} {u:List Nat} (e:tr i p=some u):i<p:=by
 have hl:=h.lt i p u e
 have hne:p≠i:=fun h2=>by subst h2; rw [h.diag] at e; cases e
 have e2:Cm.cp n tr i p=some u:=by rw [Cm.cA hne]; exact e
 have gu:=h.rp.gd i p u (Nat.zero_le _) hl.1 e2;have fu:=h.rp.fx i p u (Nat.zero_le _) hl.1 e2;have au:=h.rp.at_ i p u (Nat.zero_le _) hl.1 e2
 rcases Nat.lt_or_ge i p with h1 | h1
 ·exact h1
 ·exact absurd (Cm.ku gu hl.2 hl.1 ((fu p (by omega)).trans au.symm)) hne
def SS (n:Nat) (tr:Tr) (l:List (List Nat)) (a b:Nat):Prop:=(Cm.cS n (Cm.cp n tr) n (Ma.aj (l.getD a []) (l.getD b []))).1=n
theorem o6.of {gs:List Nat→Prop} {tr:Tr} (h:Cm.cE n gs tr) (hs:∀ a b,a<(cU n tr).length→b<(cU n tr).length→SS n tr (cU n tr) a b):o6 n tr:=fun q r=>by
 obtain ⟨a,ha,ea⟩:=List.getElem_of_mem (en.2 ⟨q.1.1,q.1.2,by have:=q.2.1; omega,q.2.1.2,Dp q⟩);obtain ⟨b,hb,eb⟩:=List.getElem_of_mem (en.2 ⟨r.1.1,r.1.2,by have:=r.2.1; omega,r.2.1.2,Dp r⟩);have:=hs a b ha hb;unfold SS at this;rw [eU ha,eU hb,ea,eb] at this;exact this
theorem o6.ss {gs:List Nat→Prop} {tr:Tr} (h:Cm.cE n gs tr) (hc:o6 n tr) {a b:Nat} (ha:a<(cU n tr).length) (hb:b<(cU n tr).length):SS n tr (cU n tr) a b:=by
 unfold SS;rw [eU ha,eU hb];obtain ⟨i,p,hi,hp,e⟩:=en.1 (List.getElem_mem ha);obtain ⟨j,q,hj,hq,e2⟩:=en.1 (List.getElem_mem hb);have:=hc ⟨(i,p),⟨Iv h e,hp⟩,by show (tr i p).isSome=true; rw [e]; rfl⟩ ⟨(j,q),⟨Iv h e2,hq⟩,by show (tr j q).isSome=true; rw [e2]; rfl⟩;unfold Dn at this;simp only [e,e2,Option.getD_some] at this;exact this
end Go.Proofs.YtbngdgfmlmkgiaaGreat

namespace Go.Proofs.YtbngdgfmlmkgiaaGreat
open Go.Proofs
open Go.Proofs.Cm (Tr cE Gr Gd Sd cp cS)
def Dq (n:Nat) (tr:Tr) (x:List Nat):Tr:=jy n tr (cS n (cp n tr) n x)
structure TL (n:Nat) (gs:List Nat→Prop) (tr:Tr) (l:List (List Nat)):Prop where
 ok:cE n gs tr
 sd:∀ x∈l,Sd n (cp n tr) n x
theorem TL.nil (n:Nat) (gs:List Nat→Prop):TL n gs (fun _ _=>none) []:=⟨Cm.cE.Mk,fun x hx=>by simp at hx⟩
theorem TL.ins {gs:List Nat→Prop} (hg:∀ s,gs s→Gd n s) {tr:Tr} {l:List (List Nat)} (h:TL n gs tr l) {x:List Nat} (hx:Gr n gs x):TL n gs (Dq n tr x) (l++[x]):=by
 obtain ⟨h1,h2,h3,_⟩:=oX hg h.ok hx;refine ⟨h1,fun y hy=>?_⟩
 rcases List.mem_append.1 hy with hy | hy
 ·exact Sd.mono (fun i p u _=>h2 i p u) (h.sd y hy)
 ·rw [List.mem_singleton] at hy; subst hy; exact h3
theorem SN {gs:List Nat→Prop} (hg:∀ s,gs s→Gd n s) {tr:Tr} (h:cE n gs tr) {x:List Nat} (hx:Gr n gs x) (e:(cS n (cp n tr) n x).1=n):Sd n (cp n tr) n x:=by
 have h3:=(oX hg h hx).2.2.1
 have e2:jy n tr (cS n (cp n tr) n x)=tr:=by unfold jy; rw [if_neg (by omega)]
 rwa [e2] at h3
theorem TL.closed {gs:List Nat→Prop} (hg:∀ s,gs s→Gd n s) {tr:Tr} {l:List (List Nat)} (h:TL n gs tr l) (hl:∀ s,gs s→s∈l) (hc:o6 n tr):Cm.kn n (Gr n gs) (cp n tr):=by
 refine (LE.start h.ok (fun s hs=>h.sd s (hl s hs))).done hg fun a b ha hb=>?_;unfold n_;have h1:=hc.ss h.ok ha hb
 have hm:∀ {a:Nat} (ha:a<(cU n tr).length),Gr n gs ((cU n tr).getD a []):=fun {a} ha=>by
  rw [eU ha];obtain ⟨i,p,_,_,e⟩:=en.1 (List.getElem_mem ha);exact h.ok.mem _ _ _ e
 exact SN hg h.ok (.mul _ _ (hm ha) (hm hb)) h1
def l_ (x n:Int):Int:=if x.tmod n<0 then x.tmod n+n else x.tmod n
theorem sq {x n:Int} (h0:0<n):0≤l_ x n∧l_ x n<n:=by
 have h2:=Int.tmod_lt_of_pos x h0
 have h3:-n<x.tmod n:=by
  have:=Int.lt_tmod_of_pos x h0;omega
 unfold l_
 split <;> omega
def MU (n:Nat) (st:List (List Nat) × Tr) (a b:Int):List (List Nat) × Tr :=
 (st.1.set (l_ a st.1.length).toNat (Ma.aj (st.1.getD (l_ a st.1.length).toNat []) (st.1.getD (l_ b st.1.length).toNat [])),
  Dq n st.2 (Ma.aj (st.1.getD (l_ a st.1.length).toNat []) (st.1.getD (l_ b st.1.length).toNat [])))
def Pm (n:Nat) (s0:List (List Nat) × Tr) (sr:List Int):Nat→List (List Nat) × Tr
 | 0=>s0
 | k+1=>MU n (Pm n s0 sr k) (sr.getD (2*k) 0) (sr.getD (2*k+1) 0)
theorem Dr {n:Nat} {s0:List (List Nat) × Tr} {sr:List Int}:∀ k,(Pm n s0 sr k).1.length=s0.1.length
 | 0=>rfl
 | k+1=>by
  show ((Pm n s0 sr k).1.set _ _).length=_;rw [List.length_set,Dr k]
structure RI (n:Nat) (gs:List Nat→Prop) (st:List (List Nat) × Tr):Prop where
 gr:∀ x∈st.1,Gr n gs x
 tl:∃ l,TL n gs st.2 l∧∀ s,gs s→s∈l
theorem zu {l:List (List Nat)} {i:Nat} (h:i<l.length):l.getD i []∈l:=by rw [eU h]; exact List.getElem_mem h
theorem RI.step {gs:List Nat→Prop} (hg:∀ s,gs s→Gd n s) {st:List (List Nat) × Tr} (h:RI n gs st) (h0:0<st.1.length) (a b:Int):RI n gs (MU n st a b):=by
 have ha:=sq (x:=a) (n:=st.1.length) (by omega);have hb:=sq (x:=b) (n:=st.1.length) (by omega);have hy:Gr n gs (Ma.aj (st.1.getD (l_ a st.1.length).toNat []) (st.1.getD (l_ b st.1.length).toNat [])):=.mul _ _ (h.gr _ (zu (by omega))) (h.gr _ (zu (by omega)));refine ⟨fun x hx=>?_,?_⟩
 ·rcases List.mem_or_eq_of_mem_set hx with h1 | h1
  ·exact h.gr x h1
  ·rw [h1]; exact hy
 ·obtain ⟨l,h1,h2⟩:=h.tl
  exact ⟨_,h1.ins hg hy,fun s hs=>List.mem_append.2 (.inl (h2 s hs))⟩
theorem RI.all {n:Nat} {gs:List Nat→Prop} (hg:∀ s,gs s→Gd n s) {s0:List (List Nat) × Tr} (h:RI n gs s0) (h0:0<s0.1.length) (sr:List Int):∀ k,RI n gs (Pm n s0 sr k)
 | 0=>h
 | k+1=>(RI.all hg h h0 sr k).step hg (by rw [Dr]; exact h0) _ _
def Iw (n:Nat) (l:List (List Nat)):Tr:=l.foldl (Dq n) (fun _ _=>none)
theorem TL.fold {n:Nat} {gs:List Nat→Prop} (hg:∀ s,gs s→Gd n s):∀ (l pre:List (List Nat)) (tr:Tr),TL n gs tr pre→(∀ x∈l,Gr n gs x)→TL n gs (l.foldl (Dq n) tr) (pre++l)
 | [],pre,tr,h,_=>by rw [List.append_nil]; exact h
 | x :: l,pre,tr,h,hx=>by
  have:=TL.fold hg l (pre++[x]) (Dq n tr x) (h.ins hg (hx x (by simp))) fun y hy=>hx y (by simp [hy]);rw [List.append_assoc] at this;exact this
theorem TL.Iw {gs:List Nat→Prop} (hg:∀ s,gs s→Gd n s) (l:List (List Nat)) (h:∀ x∈l,Gr n gs x):TL n gs (Iw n l) l:=TL.fold hg l [] _ (TL.nil n gs) h
def Pn (n:Nat) (gs:List (List Nat)):List (List Nat) × Tr:=(gs++gs.map Ma.aO,Iw n gs)
theorem RI.start (hg:∀ s∈gs,Gd n s):RI n (·∈gs) (Pn n gs):=by
 refine ⟨fun x hx=>?_,gs,TL.Iw hg gs fun x hx=>.gen x hx,fun s hs=>hs⟩
 rcases List.mem_append.1 hx with h | h
 ·exact .gen x h
 ·obtain ⟨y,hy,rfl⟩:=List.mem_map.1 h
  exact (Gr.fW hg).inv y (.gen y hy)
end Go.Proofs.YtbngdgfmlmkgiaaGreat

namespace Go.Proofs.YtbngdgfmlmkgiaaGreat
open Go.RowKit
open Go.Proofs
open Go.Proofs.Cm (Tr)
theorem dO.push {v:Value} {l:List (List Nat)} (h:dO F M W v l) {u:Value} {x:List Nat} (hu:FP F W u x) (hs:∃ a m c,u=.slice a m c) (hF:∀ k,F k→k<W.heap.size) (hM:∀ k,M k→k<W.heap.size) (hn:l.length<1000000) (ty:TypeId) :
  ∃ a c X,(Builtin.append_ #[22,22] ty #[v,.slice (some ⟨W.heap.size,0,none⟩) 1 1]).run Tryz.prog (W.alloc (.cells #[u] 26))=.ok (.slice a (l.length+1) c) X∧dO F M X (.slice a (l.length+1) c) (l++[x])∧Rg.Kp (fun k=>v.ownBlock=some k) W X:=by
 obtain ⟨B,us,h0,h1,h2⟩:=h.own;obtain ⟨a0,m0,c0,rfl⟩:=hs;have hb:Below W.heap.size W (W.alloc (.cells #[.slice a0 m0 c0] 26)):=(Below.refl _ _).alloc (Nat.le_refl _) _;obtain ⟨v',X,r1,r2,r3,r4,a,c,rfl⟩:=cR (P:=Tryz.prog) aE ty (Rg.aQ h1 hb) (Nat.le_trans h0 hb.size) W.heap.size 1 (u:=.slice a0 m0 c0) (by rw [Rg.aM]; rfl) rfl hn;have hk:Rg.Kp (fun k=>v.ownBlock=some k) W X:=Rg.Kp.trans (M:=fun k=>v.ownBlock=some k) ((Rg.Kp.aK hb).fN fun _=>False.elim) (Rg.Kp.cH r3 fun _ e=>e) (fun _ _ e=>e);have hg:∀ k,F k→¬ v.ownBlock=some k:=fun k g e=>(h.off k e).1 g;refine ⟨a,c,X,r1,⟨⟨B,us++[.slice a0 m0 c0],Nat.le_trans h0 hk.size,by rw [List.length_append]; exact r2,by rw [List.map_append]; exact br.snoc (h2.kp hk hg) (Rg.FI.kp hu hk hg)⟩,fun k e=>?_⟩,hk⟩
 rcases r4 with r4 | r4
 ·exact h.off k (by rw [← r4]; exact e)
 ·rw [r4] at e
  injection e with e
  have e2:(W.alloc (.cells #[.slice a0 m0 c0] 26)).heap.size=W.heap.size+1:=by simp
  exact ⟨fun g=>by have:=hF _ g; omega,fun g=>by have:=hM _ g; omega⟩
theorem dO.set {F M:Nat→Prop} {W:World} {g c:Nat} {l:List (List Nat)} (h:dO F M W (.slice (some ⟨g,0,none⟩) l.length c) l) (i:Nat) {u:Value} {x:List Nat} (hu:FP F W u x) :
  dO F M (W.setCell ⟨g,i,none⟩ u) (.slice (some ⟨g,0,none⟩) l.length c) (l.set i x)∧Rg.Kp (fun k=>k=g) W (W.setCell ⟨g,i,none⟩ u):=by
 obtain ⟨B,us,h0,h1,h2⟩:=h.own;have hk:Rg.Kp (fun k=>k=g) W (W.setCell ⟨g,i,none⟩ u):=Rg.Kp.aS rfl;have hg:∀ k,F k→¬ k=g:=fun k e e2=>(h.off g rfl).1 (e2▸e);have zW:=h2.kp hk hg;refine ⟨⟨⟨B,us.set i u,Nat.le_trans h0 hk.size,?_,?_,fun j hj mA=>?_⟩,h.off⟩,hk⟩
 ·rw [List.length_set]; exact (h1.stored i u).1
 ·rw [List.length_set,List.length_map,List.length_set,← List.length_map (f:=Ma.ah)]; exact h2.1
 ·have e1:j<us.length:=by rwa [List.length_set] at hj
  have e2:j<l.length:=by rwa [List.length_map,List.length_set] at mA
  by_cases e:i=j
  ·subst e
   simp only [List.getElem_set_self,List.getElem_map];exact Rg.FI.kp hu hk hg
  ·simp only [List.getElem_set_ne e,List.getElem_map]
   have:=zW.2 j e1 (by rw [List.length_map]; exact e2)
   simpa using this
theorem dO.frozen {F M:Nat→Prop} {W:World} {g n c:Nat} {l:List (List Nat)} (h:dO F M W (.slice (some ⟨g,0,none⟩) n c) l) (hn:n=l.length) (i:Nat):W.frozen? ⟨g,i,none⟩=false:=by
 subst hn;obtain ⟨B,us,h0,h1,h2⟩:=h.own;exact h1.frozenAt i
end Go.Proofs.YtbngdgfmlmkgiaaGreat

namespace Go.Proofs.YtbngdgfmlmkgiaaGreat
open Go.RowKit
open Go.Proofs
open Go.Proofs.Cm (Tr)
attribute [local irreducible] Go.Calls Go.wpList
theorem KI.fN {F F' M M':Nat→Prop} {w w':World} (h:KI F w F' w' M) (hM:∀ z,M z→M' z):KI F w F' w' M':=⟨h.kg,h.kp.fN hM,h.new⟩
theorem KI.trans {F F' Wq M:Nat→Prop} {w w' w'':World} (h:KI F w F' w' M) (h':KI F' w' Wq w'' M):KI F w Wq w'' M :=
 ⟨h.kg.trans h'.kg,Rg.Kp.trans (M:=M) h.kp h'.kp (fun _ _ e=>e),fun k hk=>by
  rcases h'.new k hk with e | e
  ·exact h.new k e
  ·exact .inr (Nat.le_trans h.kp.size e)⟩
end Go.Proofs.YtbngdgfmlmkgiaaGreat

namespace Go.Proofs.YtbngdgfmlmkgiaaGreat
open Go.RowKit
open Go.Proofs
open Go.Proofs.Ob
open Go.Proofs.Cm (Tr cE)
attribute [local irreducible] Go.Calls Go.wpList
theorem dO.nil (F M:Nat→Prop) (W:World):dO F M W (.slice none 0 0) []:=⟨⟨W.heap.size,[],Nat.le_refl _,World.ownsRow_nil _ _ _ _,Rg.br.nil _ _⟩,fun k e=>by simp [Value.ownBlock] at e⟩
end Go.Proofs.YtbngdgfmlmkgiaaGreat

namespace Go.Proofs.YtbngdgfmlmkgiaaGreat
open Go.RowKit
open Go.Proofs
open Go.Proofs.Cm (Tr)
theorem CW.up {w:World} {b:Nat} {v:Value} (h:CW w b v) (hb:Below w.heap.size w w'):CW w' b v:=h.below hb
theorem dO.below {v:Value} {l:List (List Nat)} (h:dO F M W v l) (hb:Below W.heap.size W W'):dO F M W' v l:=by
 obtain ⟨B,us,g0,g1,g2⟩:=h.own;exact ⟨⟨B,us,Nat.le_trans g0 hb.size,Rg.aQ g1 hb,g2.kp (M:=fun _=>False) (Rg.Kp.aK hb) (fun _ _=>id)⟩,h.off⟩
theorem KG.jN {w:World} (h:KG F0 w0 F w) (hb:Below w.heap.size w w'):KG F0 w0 F w':=h.v8 (KF.aK hb)
end Go.Proofs.YtbngdgfmlmkgiaaGreat

namespace Go.Proofs.YtbngdgfmlmkgiaaGreat
open Go.Proofs
open Go.Proofs.Cm (Gr Gd ar eI St Tr Fx ap Rp kn Sd cS lV)
def nG (O:List (List Nat)) (R:List (List (List Nat))):Tr:=fun i p=>if p∈O.getD i [] then some ((R.getD i []).getD ((O.getD i []).idxOf p) []) else none
theorem tT {i p:Nat} (h:p∈O.getD i []):nG O R i p=some ((R.getD i []).getD ((O.getD i []).idxOf p) []):=if_pos h
theorem JJ {i p:Nat} (h:¬ p∈O.getD i []):nG O R i p=none:=if_neg h
theorem MW {i p:Nat} {u:List Nat} (h:nG O R i p=some u):p∈O.getD i []∧u=(R.getD i []).getD ((O.getD i []).idxOf p) []:=by
 unfold nG at h
 split at h
 ·rename_i hm; injection h with h; exact ⟨hm,h.symm⟩
 ·cases h
theorem JK {l:List Nat} {p:Nat} (h:p∈l):l.getD (l.idxOf p) 0=p:=by
 have hl:=List.idxOf_lt_length_of_mem h;rw [List.getD_eq_getElem?_getD,List.getElem?_eq_getElem hl];exact List.getElem_idxOf hl
theorem o7 (h:ar n H O R) {i p:Nat} (hi:i<n) {u:List Nat} (hu:nG O R i p=some u):lV n (fun z=>St H i z∧ap z i=p) u:=by
 obtain ⟨hm,rfl⟩:=MW hu;have:=h.rep i _ hi (List.idxOf_lt_length_of_mem hm)
 rwa [JK hm] at this
theorem FN (hH:eI n H) {i:Nat} (hi:i<n) {u:List Nat} (h:lV n (fun z=>St H i z∧ap z i=i) u):u=Ma.aR n:=by
 have hg:=hH.gd u h.1.1.1
 rcases h.2 (Ma.aR n) ⟨⟨hH.one,Fx.one (by omega)⟩,Cm.dY hi⟩ with e | ⟨j,hj,h1,h2⟩
 ·exact e.symm
 ·rw [Cm.dY hj] at h2
  have h3:=h1 _ h2;rw [Cm.dY (by omega)] at h3;have:=Cm.ku hg (by omega) hj h3;omega
theorem zw (hH:eI n H) (h:ar n H O R):kn n H (nG O R):=by
 refine ⟨⟨fun i p u _ hi hu=>hH.gd u (o7 h hi hu).1.1.1,fun i p u _ hi hu=>(o7 h hi hu).1.1.2,fun i p u _ hi hu=>(o7 h hi hu).1.2,fun i _ hi=>?_⟩,fun i p u hi hu=>(o7 h hi hu).1.1.1,fun i x hi hx=>?_⟩
 ·have hm:i∈O.getD i []:=(h.orb i i hi).2 ⟨Ma.aR n,⟨hH.one,Fx.one (by omega)⟩,Cm.dY hi⟩
  have e:=tT (R:=R) hm;rw [e];exact congrArg some (FN hH hi (o7 h hi e))
 ·exact ⟨_,tT ((h.orb i _ hi).2 ⟨x,hx,rfl⟩)⟩
def ve (n:Nat) (O:List (List Nat)) (R:List (List (List Nat))) (x:List Nat):Nat × List Nat:=cS n (nG O R) n x
theorem MX (hH:eI n H) (h:ar n H O R) {x:List Nat} (gx:Gd n x):(ve n O R x).1=n↔H x:=by
 have ht:=zw hH h
 constructor
 ·intro e
  have key:∀ d x,d≤n→Gd n x→(cS n (nG O R) d x).1=n→H (cS n (nG O R) d x).2→H x:=by
   intro d
   induction d with
   | zero=>intro x _ _ _ h; exact h
   | succ d ih =>
    intro x hd gx he hx
    cases hu:nG O R (n - (d+1)) (ap x (n - (d+1))) with
    | none =>
     rw [Cm.jF hu] at he;simp at he;omega
    | some u =>
     rw [Cm.gY hu] at he hx;have Wr:=ht.mem _ _ _ (by omega) hu;have gu:=hH.gd u Wr;have:=ih _ (by omega) (Cm.a_ gx (Cm.aW gu)) he hx;have h2:=hH.mul _ _ this Wr
     rwa [Cm.mul_inv_cancel gx gu] at h2
  have B7:(cS n (nG O R) n x).2=Ma.aR n:=by
   have h1:=Cm.mE ht.rp (d:=n) (x:=x) (Nat.le_refl _) (Nat.zero_le _) gx (by rw [Nat.sub_self]; intro j hj; omega);refine Fx.all h1.2.2.1 ?_;have h2:=h1.2.2.2.1;have e2:(cS n (nG O R) n x).1=n:=e
   rwa [e2] at h2
  exact key n x (Nat.le_refl _) gx e (by rw [B7]; exact hH.one)
 ·intro hx
  have key:∀ d x,d≤n→St H (n - d) x→(cS n (nG O R) d x).1=n:=by
   intro d
   induction d with
   | zero=>intro x _ _; rfl
   | succ d ih =>
    intro x hd hx;obtain ⟨u,hu⟩:=ht.all (n - (d+1)) x (by omega) hx;rw [Cm.gY hu];have gx:=hH.gd x hx.1;have hs:=Cm.rJ ht.rp (Nat.zero_le _) (by omega) gx hx.2 hu;refine ih _ (by omega) ⟨hH.mul _ _ hx.1 (hH.inv _ (ht.mem _ _ _ (by omega) hu)),?_⟩;rw [show n - d=n - (d+1)+1 by omega];exact hs.2
  exact key n x (Nat.le_refl _) ⟨hx,by rw [Nat.sub_self]; intro j hj; omega⟩
end Go.Proofs.YtbngdgfmlmkgiaaGreat

namespace Go.Proofs.YtbngdgfmlmkgiaaGreat
open Go.RowKit
open Go.Proofs
open Go.Shelf
open Go.Proofs.Cm (Tr Gd ap cS)
attribute [local irreducible] Go.Calls Go.wpList
def mf (tr:Tr):List Nat→List Nat→Option (List Nat)
 | [],x=>some x
 | i :: l,x=>match tr i (ap x i) with
  | none=>none
  | some u=>mf tr l (Ma.aj x (Ma.aO u))
theorem zx (tr:Tr):∀ (l:List Nat) (x:List Nat) (i:Nat) {y u:List Nat},mf tr l x=some y→tr i (ap y i)=some u→mf tr (l++[i]) x=some (Ma.aj y (Ma.aO u))
 | [],x,i,y,u,h,h2=>by
  cases h
  show (match tr i (ap x i) with | none=>none | some u=>mf tr [] (Ma.aj x (Ma.aO u)))=_
  rw [h2]; rfl
 | j :: l,x,i,y,u,h,h2=>by
  have h':(match tr j (ap x j) with | none=>none | some u=>mf tr l (Ma.aj x (Ma.aO u)))=some y:=h
  show (match tr j (ap x j) with | none=>none | some u=>mf tr (l++[i]) (Ma.aj x (Ma.aO u)))=_
  cases e:tr j (ap x j) with
  | none=>rw [e] at h'; cases h'
  | some v =>
   rw [e] at h';exact zx tr l _ i h' h2
theorem Ds (tr:Tr):∀ (l m:List Nat) (x:List Nat),mf tr (l++m) x=(mf tr l x).bind (mf tr m)
 | [],m,x=>rfl
 | j :: l,m,x=>by
  show (match tr j (ap x j) with | none=>none | some u=>mf tr (l++m) (Ma.aj x (Ma.aO u)))=Option.bind (match tr j (ap x j) with | none=>none | some u=>mf tr l (Ma.aj x (Ma.aO u))) _
  cases tr j (ap x j) with
  | none=>rfl
  | some v=>exact Ds tr l m _
theorem qJ {n:Nat} {tr:Tr} {x:List Nat}:∀ {k:Nat} {y:List Nat},k≤n→mf tr (List.range k) x=some y→cS n tr n x=cS n tr (n - k) y
 | 0,y,_,h=>by cases h; rfl
 | k+1,y,hk,h=>by
  rw [List.range_succ,Ds] at h
  cases e:mf tr (List.range k) x with
  | none=>rw [e] at h; cases h
  | some z =>
   rw [e] at h;rw [qJ (by omega) e]
   have h':(match tr k (ap z k) with | none=>none | some u=>mf tr [] (Ma.aj z (Ma.aO u)))=some y:=h
   have ek:n - (n - (k+1)+1)=k:=by omega
   rw [show n - k=n - (k+1)+1 by omega]
   cases e2:tr k (ap z k) with
   | none=>rw [e2] at h'; cases h'
   | some u =>
    rw [e2] at h'
    cases h'
    exact Cm.gY (by rw [ek]; exact e2)
theorem JL {tr:Tr} {x:List Nat} (hk:k<n) (h:mf tr (List.range k) x=some y) (h2:tr k (ap y k)=none):cS n tr n x=(k,y):=by
 rw [qJ (Nat.le_of_lt hk) h,show n - k=n - (k+1)+1 by omega]
 have ek:n - (n - (k+1)+1)=k:=by omega
 rw [Cm.jF (by rw [ek]; exact h2),ek]
theorem JM {tr:Tr} {x:List Nat} (h:mf tr (List.range n) x=some y):cS n tr n x=(n,y):=by
 rw [qJ (Nat.le_refl _) h,Nat.sub_self]; rfl
theorem Iy {n:Nat} {tr:Tr} (ht:∀ i p u,i<n→tr i p=some u→Gd n u):∀ {l:List Nat} {x y:List Nat},(∀ i∈l,i<n)→Gd n x→mf tr l x=some y→Gd n y
 | [],x,y,_,gx,h=>by cases h; exact gx
 | i :: l,x,y,hl,gx,h=>by
  have h':(match tr i (ap x i) with | none=>none | some u=>mf tr l (Ma.aj x (Ma.aO u)))=some y:=h
  cases e:tr i (ap x i) with
  | none=>rw [e] at h'; cases h'
  | some u =>
   rw [e] at h';exact Iy ht (fun j hj=>hl j (List.mem_cons_of_mem _ hj)) (Cm.a_ gx (Cm.aW (ht i _ u (hl i (List.mem_cons_self ..)) e))) h'
end Go.Proofs.YtbngdgfmlmkgiaaGreat

namespace Go.Proofs.YtbngdgfmlmkgiaaGreat
open Go.RowKit
open Go.Proofs
open Go.Proofs.Ob
open Go.Shelf
open Go.Proofs.Cm (Tr Gd ap cS)
attribute [local go_sem] Oper.semAt_some
attribute [local irreducible] Go.Calls Go.wpList Go.wpListIn
def Iz (n:Nat) (O:List (List Nat)) (R:List (List (List Nat))) (x:List Nat) (w:World) (e:Ending) (w':World):Prop:=∃ v,e=.returned (.tuple #[v,.int .i64 (((ve n O R x).1:Nat):Int)])∧Rg.NP w' v (ve n O R x).2∧Below w.heap.size w w'
theorem kB (h:Gd n y) {z:Nat} (hz:z∈y):z<n:=by
 obtain ⟨i,hi,rfl⟩:=List.getElem_of_mem hz;have:=Cm.eH h (i:=i) (by rw [← h.2]; exact hi)
 rwa [Cm.kS hi] at this
end Go.Proofs.YtbngdgfmlmkgiaaGreat

namespace Go.Proofs.YtbngdgfmlmkgiaaGreat
open Go.Proofs
open Go.Proofs.Cm (Gr Gd ar eI St Tr ap cS lV)
open Classical in
noncomputable def c_ (n:Int) (OO:List (List Int)) (RR:List (List (List Int))):Int:=if 1≤n∧n≤64 then (if fh n OO RR then 0 else 3) else 2
theorem zy {n:Int}:nC n OO RR (c_ n OO RR):=by
 unfold c_
 by_cases h:1≤n∧n≤64
 ·rw [if_pos h]
  by_cases h2:fh n OO RR
  ·rw [if_pos h2]; exact .inr ⟨h,.inl ⟨h2,rfl⟩⟩
  ·rw [if_neg h2]; exact .inr ⟨h,.inr ⟨h2,rfl⟩⟩
 ·rw [if_neg h]; exact .inl ⟨h,rfl⟩
theorem xk {n:Int} {c:Int} (h:nC n OO RR c):c=c_ n OO RR:=h.uniq zy
theorem FQ {n:Int} (h:c_ n OO RR=0):fh n OO RR:=by
 have:=zy (n:=n) (OO:=OO) (RR:=RR);rw [h] at this;exact this.zero
theorem kC {n:Int} (h:fh n OO RR):c_ n OO RR=0:=(xk (nC.of h)).symm
noncomputable def iw (n:Int) (OO:List (List Int)) (RR:List (List (List Int))) (xl:List Int):Int :=
 if c_ n OO RR=0 then (if Ma.cj xl=0 then (if (xl.length:Int)=n then 0 else 10) else Ma.cj xl) else c_ n OO RR
theorem qK {n:Int} (h:¬ c_ n OO RR=0):iw n OO RR xl=c_ n OO RR:=if_neg h
theorem o8 {n:Int} (h:c_ n OO RR=0) (h2:¬ Ma.cj xl=0):iw n OO RR xl=Ma.cj xl:=by unfold iw; rw [if_pos h,if_neg h2]
theorem qL {n:Int} (h:c_ n OO RR=0) (h2:Ma.cj xl=0) (h3:¬ (xl.length:Int)=n):iw n OO RR xl=10:=by unfold iw; rw [if_pos h,if_pos h2,if_neg h3]
theorem tU {n:Int} (h:c_ n OO RR=0) (h2:Ma.cj xl=0) (h3:(xl.length:Int)=n):iw n OO RR xl=0:=by unfold iw; rw [if_pos h,if_pos h2,if_pos h3]
theorem Dt {n:Int} (h:iw n OO RR xl=0):∃ (N:Nat) (O:List (List Nat)) (R:List (List (List Nat))) (x:List Nat),n=((N:Nat):Int)∧1≤N∧N≤64∧OO=O.map Ma.ah∧RR=R.map (List.map Ma.ah)∧ar N (Gr N (·∈R.flatten)) O R∧eI N (Gr N (·∈R.flatten))∧xl=Ma.ah x∧Gd N x:=by
 by_cases h1:c_ n OO RR=0
 ·by_cases h2:Ma.cj xl=0
  ·by_cases h3:(xl.length:Int)=n
   ·obtain ⟨N,O,R,rfl,a1,a2,a3,a4,a5,a6⟩:=FQ h1
    obtain ⟨x,rfl,hx⟩:=Ma.mn (Ma.jC h2).2.2;rw [Ma.aG] at h3;exact ⟨N,O,R,x,rfl,a1,a2,a3,a4,a5,Gr.fW a6,rfl,hx,by omega⟩
   ·rw [qL h1 h2 h3] at h; cases h
  ·rw [o8 h1 h2] at h; exact absurd h h2
 ·rw [qK h1] at h; exact absurd h h1
def FU (l:List Int):List Nat:=l.map Int.toNat
theorem Du (l:List Nat):FU (Ma.ah l)=l:=by
 unfold FU Ma.ah;rw [List.map_map];exact (List.map_congr_left fun x _=>Int.toNat_natCast x).trans (List.map_id _)
theorem Dv (l:List (List Nat)):(l.map Ma.ah).map FU=l:=by
 rw [List.map_map];exact (List.map_congr_left fun x _=>Du x).trans (List.map_id _)
theorem JN (l:List (List (List Nat))):(l.map (List.map Ma.ah)).map (List.map FU)=l:=by
 rw [List.map_map];exact (List.map_congr_left fun x _=>Dv x).trans (List.map_id _)
def SQ (n:Int) (OO:List (List Int)) (RR:List (List (List Int))) (xl:List Int):Nat × List Nat:=ve n.toNat (OO.map FU) (RR.map (List.map FU)) (FU xl)
theorem Po {x:List Nat}:SQ ((N:Nat):Int) (O.map Ma.ah) (R.map (List.map Ma.ah)) (Ma.ah x)=ve N O R x:=by
 unfold SQ;rw [Dv,JN,Du,Int.toNat_natCast]
noncomputable def Pp (n:Int) (OO:List (List Int)) (RR:List (List (List Int))) (xl:List Int):Bool :=
 if iw n OO RR xl=0 then decide ((((SQ n OO RR xl).1:Nat):Int)=n) else false
theorem MY {n:Int} (h:¬ iw n OO RR xl=0):Pp n OO RR xl=false:=if_neg h
theorem IA {x:List Nat} (h:iw ((N:Nat):Int) (O.map Ma.ah) (R.map (List.map Ma.ah)) (Ma.ah x)=0):Pp ((N:Nat):Int) (O.map Ma.ah) (R.map (List.map Ma.ah)) (Ma.ah x)=decide ((((ve N O R x).1:Nat):Int)=((N:Nat):Int)):=by
 unfold Pp; rw [if_pos h,Po]
end Go.Proofs.YtbngdgfmlmkgiaaGreat

namespace Go.Proofs.YtbngdgfmlmkgiaaGreat
open Go.RowKit
open Go.Proofs
open Go.Proofs.Ob
open Go.Proofs.Cm (Gd)
attribute [local irreducible] Go.Calls Go.wpList
theorem FV {n:Int} {w:World} (h:bZ w ov rv OO RR) :
  Calls Tryz.prog 64 #[.agg #[.int .i64 n,ov,rv]] w fun e w'=>e=.returned (.int .i64 (c_ n OO RR))∧Below w.heap.size w w':=by
 refine (AU h).mono ?_;rintro e w' ⟨c,rfl,h1,h2⟩;exact ⟨by rw [xk h1],h2⟩
end Go.Proofs.YtbngdgfmlmkgiaaGreat

namespace Go.Proofs.Rg
open Go Go.RowKit
variable {P:Program} {md:Region.Mode} {ops:Array Oper} {Q:Exit→Act→World→Prop} {S:Array Bool→World→Prop}
theorem zz {i d:Nat} {I:World→Prop} {R:Value→World→Prop} {K:World→World→Prop} {oi:Oper} {b:Act} (hi:ops[i]?=some oi) (hd:oi.dst=some d) (hw:Region.wanted oi (yielded ops b.tmps)=true) (f:FuncId) (args:Array Value)
  (hr:(execOp b.eval oi).run P W=.ok (.enter f args) W) (hc:Calls P f args W fun e W'=>∃ v,e=.returned v∧I W'∧R v W'∧K W W'):Does P ops Q i d I R K b W:=by
 unfold Does wpOp;simp only [hi,hw,if_true]
 left
 unfold Oper.wp;rw [hr,Oper.upon_enter];refine hc.mono fun e w' ⟨v,h1,h2⟩=>?_;rw [h1];refine ⟨v,?_,h2⟩;rw [hd]
end Go.Proofs.Rg

set_option linter.unusedVariables false
namespace Go.Proofs.YtbngdgfmlmkgiaaGreat
open Go.RowKit
open Go.Proofs
open Go.Proofs.Ob
open Go.Shelf
attribute [local irreducible] Go.Calls Go.wpList
def MK (tc:Nat) (ov rv:Value) (z:Nat):Prop:=z=tc∨ov.ownBlock=some z∨rv.ownBlock=some z
theorem sw {e:TypeId} {size:Nat} {v:Value} (h:W.ownsRow B e size v n xs):∀ k,v.ownBlock=some k→∃ o:Obj,W.heap[k]?=some o∧o.isCells=true:=fun k e1=>by
 obtain ⟨_,h3⟩:=h
 rcases h3 with ⟨h4,_⟩ | ⟨g,cap,cur,h4,_,h5,_⟩
 ·rw [h4] at e1; simp [Value.ownBlock] at e1
 ·rw [h4] at e1
  simp [Value.ownBlock] at e1;subst e1;exact ⟨_,h5,rfl⟩
theorem yJ {a:Addr} {v:Value} (h:W.cell? a=some v):∃ o:Obj,W.heap[a.block]?=some o∧o.isCells=true:=by
 unfold World.cell? at h
 cases e:W.heap[a.block]? with
 | none=>rw [e] at h; cases h
 | some o =>
  rw [e] at h;refine ⟨o,rfl,?_⟩
  cases o <;> simp at h <;> rfl
theorem fE.isCells {B:Nat} {W:World} {tc:Nat} {c0 c1 c2 ov rv:Value} {O:List (List Int)} {R:List (List (List Int))} (h:fE B W tc c0 c1 c2 ov rv O R):∀ z,MK tc ov rv z→∃ o:Obj,W.heap[z]?=some o∧o.isCells=true:=by
 obtain ⟨us,vs,h1,h2,_⟩:=h.own
 rintro z (e | e | e)
 ·subst e; exact yJ h.j0.c0
 ·exact sw h1 z e
 ·exact sw h2 z e
end Go.Proofs.YtbngdgfmlmkgiaaGreat

namespace Go.Proofs.YtbngdgfmlmkgiaaGreat
open Go.RowKit
open Go.Proofs
open Go.Proofs.Ob
open Go.Proofs.Cm (Gd)
attribute [local irreducible] Go.Calls Go.wpList
def dy (w:World) (g n:Nat) (f:Nat→Int):Prop:=g<w.heap.size∧(∀ i,i<n→w.cell? ⟨g,i,none⟩=some (.int .i64 (f i)))∧∀ i,w.frozen? ⟨g,i,none⟩=false
theorem dy.congr {w:World} {g:Nat} {f f':Nat→Int} (h:dy w g n f) (e:∀ i,i<n→f i=f' i):dy w g n f' :=
 ⟨h.1,fun i hi=>by rw [← e i hi]; exact h.2.1 i hi,h.2.2⟩
theorem dy.set {w:World} {g:Nat} {f:Nat→Int} (h:dy w g n f) (k:Nat) (v:Int) (hk:k<n):dy (w.setCell ⟨g,k,none⟩ (.int .i64 v)) g n (fun i=>if i=k then v else f i):=by
 refine ⟨by simpa using h.1,fun i hi=>?_,fun i=>by rw [World.frozen?_setCell]; exact h.2.2 i⟩;show _=some (Value.int .i64 (if i=k then v else f i))
 by_cases e:i=k
 ·subst e
  rw [if_pos rfl];exact World.cell?_setCell_same (h:=h.2.1 i hi) ..
 ·rw [if_neg e,World.cell?_setCell_other (h:=by intro h; injection h with h1 h2; omega) ..]
  exact h.2.1 i hi
theorem dy.kp {w:World} {g:Nat} {f:Nat→Int} (h:dy w g n f) (hk:Rg.Kp M w w') (hM:¬ M g):dy w' g n f :=
 ⟨Nat.lt_of_lt_of_le h.1 hk.size,fun i hi=>(World.cell?_of_block (a:=⟨g,i,none⟩) (hk.block g h.1 hM)).trans (h.2.1 i hi),fun i=>(World.frozen?_of_block (a:=⟨g,i,none⟩) (hk.block g h.1 hM)).trans (h.2.2 i)⟩
theorem dy.below {w:World} {g:Nat} {f:Nat→Int} (h:dy w g n f) (hb:Below w.heap.size w w'):dy w' g n f:=h.kp (M:=fun _=>False) (Rg.Kp.aK hb) id
theorem dy.np {w:World} {g:Nat} {f:Nat→Int} (h:dy w g n f) (l:List Nat) (hl:l.length=n) (hc:n≤cap) (hm:cap≤maxLen) (hn:n≤1000) (e:∀ i (hi:i<l.length),f i=((l[i]:Nat):Int)):Rg.NP w (.slice (some ⟨g,0,none⟩) n cap) l:=by
 refine Rg.Ints.mk (by simp [Ma.ah,hl]) h.1 (by simp [Ma.ah]; omega) hm (by simp [Ma.ah]; omega) fun i hi=>?_
 have nc:i<l.length:=by simpa [Ma.ah] using hi
 rw [Nat.zero_add,h.2.1 i (by omega),e i nc];simp [Ma.ah]
end Go.Proofs.YtbngdgfmlmkgiaaGreat

namespace Go.Proofs.YtbngdgfmlmkgiaaGreat
open Go.RowKit
open Go.Proofs
open Go.Proofs.Ob
open Go.Proofs.Cm (Gd Gr ar)
attribute [local irreducible] Go.Calls Go.wpList
theorem qM (w:World) (n:Nat):dy (w.alloc (.cells (madeCells #[.int .i64 0] n) 3)) w.heap.size n (fun _=>0):=by
 have h:=World.rowIs_made w (.int .i64 0) n 3;exact ⟨by simp,fun i hi=>h.cell hi,fun i=>h.frozen i⟩
theorem fe.SU {v:Value} (h:fe B W v ll) (hB:B≤W.heap.size) {u:Value} (hv:Rg.FI (PG B W v) W u l) (LW:∃ a n c,u=.slice a n c) (hn:ll.length<1000000) (ty:TypeId) :
  ∃ a c X,(Builtin.append_ #[22,22] ty #[v,.slice (some ⟨W.heap.size,0,none⟩) 1 1]).run Tryz.prog (W.alloc (.cells #[u] 26))=.ok (.slice a (ll.length+1) c) X∧fe B X (.slice a (ll.length+1) c) (ll++[l])∧(∀ {B':Nat} {W0:World},B'≤B→Below B' W0 W→Below B' W0 X):=by
 obtain ⟨us,h1,h2⟩:=h.own;have hb:Below W.heap.size W (W.alloc (.cells #[u] 26)):=(Below.refl _ _).alloc (Nat.le_refl _) _;obtain ⟨ua,un,uc,LW⟩:=LW;have aJ:=fun k e=>(h1.lt k e).2;obtain ⟨v',X,r1,r2,r3,r4,a,c,rfl⟩:=cR (P:=Tryz.prog) aE ty (Rg.aQ h1 hb) (Nat.le_trans hB hb.size) W.heap.size 1 (u:=u) (by rw [Rg.aM]; rfl) (by rw [LW]; rfl) hn;have iG:Rg.Kp (fun _=>False) W (W.alloc (.cells #[u] 26)):=Rg.Kp.aK hb
 have dn:(W.alloc (.cells #[u] 26)).heap.size=W.heap.size+1:=by simp
 have hk:Rg.Kp (fun k=>v.ownBlock=some k) W X:=Rg.Kp.trans (M:=fun k=>v.ownBlock=some k) (iG.fN fun _=>False.elim) (Rg.Kp.cH r3 fun _ e=>e) (fun _ _ e=>e);have hg:∀ k,PG B W v k→¬ v.ownBlock=some k:=fun k g=>g.2.2
 have hm:∀ k,PG B W v k→PG B X (.slice a (ll.length+1) c) k:=fun k g=>by
  refine ⟨g.1,Nat.lt_of_lt_of_le g.2.1 hk.size,fun e=>?_⟩
  rcases r4 with r4 | r4
  ·rw [r4] at e; exact g.2.2 e
  ·rw [r4] at e; injection e with e; have:=g.2.1; omega
 refine ⟨a,c,X,r1,⟨us++[u],by rw [List.length_append]; exact r2,(br.snoc (h2.kp hk hg) (hv.kp hk hg)).mono hm⟩,fun {B' W0} qs dG=>?_⟩;refine (dG.trans ⟨hk.os,hk.tape,hk.output,hk.size,fun k K8=>hk.block k ?_ fun e=>?_⟩)
 ·have:=dG.size; omega
 ·have:=(h1.lt k e).1; omega
theorem dJ.mono {B B':Nat} {w:World} {d:Int} {ll:List (List Int)} {cv:Value} {c:Int} (h:dJ B w d ll cv c) (hB:B'≤B):dJ B' w d ll cv c:=by
 rcases h with h | ⟨h0,n,gs,h1,h2,h3,h4,ov,rv,O,R,h5,h6,h7,h8⟩
 ·exact .inl h
 ·exact .inr ⟨h0,n,gs,h1,h2,h3,h4,ov,rv,O,R,h5,bs.mono h6 (fun z hz=>Nat.le_trans hB hz),fj.mono h7 (fun z hz=>Nat.le_trans hB hz),h8⟩
theorem dJ.below {w:World} {c:Int} (h:dJ B w d ll cv c) (hb:Below w.heap.size w w'):dJ B w' d ll cv c:=h.kp (M:=fun _=>False) (Rg.Kp.aK hb) (fun _ e=>e.elim)
end Go.Proofs.YtbngdgfmlmkgiaaGreat

namespace Go.Proofs.YtbngdgfmlmkgiaaGreat
open Go.RowKit
open Go.Proofs
open Go.Proofs.Ob
open Go.Proofs.Cm (Gd Gr ar ap)
attribute [local irreducible] Go.Calls Go.wpList
theorem eV {w:World} (hc:ar N H O R) (h:bZ w ov rv (O.map Ma.ah) (R.map (List.map Ma.ah))) {i:Nat} (hi:i<N) :
  ∃ ob oo oc rb ro rc,ov=.slice (some ⟨ob,oo,none⟩) N oc∧rv=.slice (some ⟨rb,ro,none⟩) N rc∧(∃ ua uc,CL w ob (oo+i) (.slice ua (O.getD i []).length uc)∧Rg.Ints w (.slice ua (O.getD i []).length uc) (Ma.ah (O.getD i []))) ∧
   (∃ va vc,CL w rb (ro+i) (.slice va (O.getD i []).length vc)∧Rg.Rows w (.slice va (O.getD i []).length vc) ((R.getD i []).map Ma.ah)):=by
 have n8:(O.map Ma.ah).length=N:=by rw [List.length_map,hc.iY]
 have xm:(R.map (List.map Ma.ah)).length=N:=by rw [List.length_map,hc.il]
 obtain ⟨oa,oc,rfl,-⟩:=h.1.shape;obtain ⟨ra,rc,rfl⟩:=h.2.shape;have h1:=h.1;have h2:=h.2;rw [n8] at h1;rw [xm] at h2;obtain ⟨ob,oo,ua,uc,e5,uT,j8,mg⟩:=FL h1 (i:=i) (by rw [n8]; exact hi);subst e5;obtain ⟨rb,ro,e6,FW,u,mL,hu⟩:=h2.Mj (k:=i) (by rw [xm]; exact hi);subst e6
 have Zx:(O.map Ma.ah)[i]'(by rw [n8]; exact hi)=Ma.ah (O.getD i []):=by
  have Zy:i<O.length:=by rw [hc.iY]; exact hi
  rw [List.getElem_map,eN Zy]
 rw [Zx] at j8 mg;rw [Ma.aG] at j8 mg
 have Zz:(R.map (List.map Ma.ah))[i]'(by rw [xm]; exact hi)=(R.getD i []).map Ma.ah:=by
  have ZA:i<R.length:=by rw [hc.il]; exact hi
  rw [List.getElem_map,eN ZA]
 rw [Zz] at hu;obtain ⟨va,vc,rfl,-⟩:=hu.shape;rw [List.length_map,hc.len i hi] at mL hu;rw [n8,xm];exact ⟨ob,oo,oc,rb,ro,rc,rfl,rfl,⟨ua,uc,CL.mk j8 uT,mg⟩,⟨va,vc,CL.mk mL FW,hu⟩⟩

theorem dQ (w:World):Rg.Ints w (.slice none 0 0) []:=(show FP (fun _=>True) w (.slice none 0 0) [] from ⟨none,0,rfl,Nat.le_refl _,Nat.zero_le _,Nat.zero_le _,fun h=>absurd h (Nat.lt_irrefl 0)⟩).np
end Go.Proofs.YtbngdgfmlmkgiaaGreat

namespace Go.Proofs.YtbngdgfmlmkgiaaGreat
open Go.RowKit
open Go.Proofs
open Go.Proofs.Cm (Gd Gr ar)
structure b_ (w:World) (v:Value) (l:List Int):Prop where
 i:Rg.Ints w v l
theorem b_.below {w w':World} {v:Value} {l:List Int} (h:b_ w v l) (hb:Below w.heap.size w w'):b_ w' v l:=⟨h.i.below hb⟩
theorem b_.at {w:World} {lv:Value} {M:List Nat} (h:b_ w lv (Ma.ah M)) (hM:M.length=D) (hD:1≤D):∃ b o c,lv=.slice (some ⟨b,o,none⟩) D c∧∀ i,i<D→CL w b (o+i) (.int .i64 ((M.getD i 0:Nat):Int)):=by
 obtain ⟨a,c,rfl,hc,hm,_,aN⟩:=Rg.NP.shape (show Rg.NP w lv M from h.i);obtain ⟨b,o,rfl,hb,hr⟩:=aN (by omega);refine ⟨b,o,c,by rw [hM],fun i hi=>⟨?_,hb⟩⟩;rw [List.getD_eq_getElem?_getD,List.getElem?_eq_getElem (show i<M.length by omega),Option.getD_some];exact hr i (by omega)
theorem cQ {w:World} {a:Option Addr} {c:Nat} {T:List (List Int)} (h:Rg.Rows w (.slice a n c) T) {i:Nat} (hi:i<T.length):∃ b o ua uc,a=some ⟨b,o,none⟩∧b<w.heap.size∧w.cell? ⟨b,o+i,none⟩=some (.slice ua T[i].length uc)∧Rg.Ints w (.slice ua T[i].length uc) T[i]:=by
 obtain ⟨a',c',e,-,-,-,hx⟩:=h.shape;simp only [Value.slice.injEq] at e;obtain ⟨rfl,rfl,rfl⟩:=e;obtain ⟨b,o,e1,e2,e3⟩:=hx (by omega);obtain ⟨u,h1,h2⟩:=e3 i hi;obtain ⟨ua,uc,e4,-⟩:=Rg.Ints.shape h2;subst e4;exact ⟨b,o,ua,uc,e1,e2,h1,h2⟩
theorem hU {w:World} {a:Option Addr} {c:Nat} (h:Rg.Ints w (.slice a n c) l) (hk:k<l.length):∃ b o,a=some ⟨b,o,none⟩∧b<w.heap.size∧w.cell? ⟨b,o+k,none⟩=some (.int .i64 l[k]):=by
 obtain ⟨a',c',e,-,-,-,hx⟩:=h.shape;simp only [Value.slice.injEq] at e;obtain ⟨rfl,rfl,rfl⟩:=e;obtain ⟨b,o,e1,e2,e3⟩:=hx (by omega);exact ⟨b,o,e1,e2,e3 k hk⟩
structure lI (w:World) (v:Value) (T:List (List Int)):Prop where
 r:Rg.Rows w v T
theorem lI.below {w w':World} {v:Value} {T:List (List Int)} (h:lI w v T) (hb:Below w.heap.size w w'):lI w' v T:=⟨Rg.Rows.below h.r hb⟩
theorem tV {W0:World} (hb:Below B W0 W) (hB:B≤W.heap.size) (hk:Rg.Kp M W X) (hM:∀ k,M k→B≤k):Below B W0 X :=
 hb.trans ⟨hk.os,hk.tape,hk.output,hk.size,fun k h=>hk.block k (Nat.lt_of_lt_of_le h hB) fun e=>Nat.lt_irrefl _ (Nat.lt_of_lt_of_le h (hM k e))⟩
theorem zA {D:Nat} (h1:1≤D) (h2:D≤64):∀ {gs:List (List Nat)},(∀ s∈gs,Gd D s)→Ma.iR ((D:Nat):Int) (gs.map Ma.ah)=0
 | [],_=>rfl
 | s :: gs,h=>by
  have g:=h s (List.mem_cons_self ..);have e1:Ma.cj (Ma.ah s)=0:=Ma.oq (by rw [Ma.aG,g.2]; exact h1) (by rw [Ma.aG,g.2]; exact h2) (Ma.vM g.1)
  have e2:((Ma.ah s).length:Int)=((D:Nat):Int):=by rw [Ma.aG,g.2]
  show (if Ma.cj (Ma.ah s)=0 then (if ((Ma.ah s).length:Int)=((D:Nat):Int) then Ma.iR ((D:Nat):Int) (gs.map Ma.ah) else 10) else Ma.cj (Ma.ah s))=0;rw [if_pos e1,if_pos e2];exact zA h1 h2 (fun x hx=>h x (List.mem_cons_of_mem _ hx))
theorem Dw (h1:1≤D) (h2:D≤64) (hl:gs.length≤4096) (h:∀ s∈gs,Gd D s):cY ((D:Nat):Int) (gs.map Ma.ah)=0:=by
 unfold cY;rw [if_pos (by omega),if_pos (by rw [List.length_map]; exact hl)];exact zA h1 h2 h
theorem JO {w:World} {d:Nat} (h:iL w ((d:Nat):Int) (gs.map Ma.ah) cv 0) :
  ∃ oa on oc ra rn rc O R,cv=.agg #[.int .i64 ((d:Nat):Int),.slice oa on oc,.slice ra rn rc]∧bZ w (.slice oa on oc) (.slice ra rn rc) (O.map Ma.ah) (R.map (List.map Ma.ah))∧ar d (Gr d (·∈gs)) O R:=by
 rcases h with ⟨h,_⟩ | ⟨_,n,gs',h1,h2,_,_,ov,rv,O,R,rfl,h3,h4,h5⟩
 ·exact absurd rfl h
 ·obtain rfl:d=n:=by omega
  obtain rfl:=cX h2;obtain ⟨oa,oc,rfl,-⟩:=h3.shape;obtain ⟨ra,rc,rfl⟩:=h4.shape;exact ⟨_,_,_,_,_,_,O,R,rfl,⟨h3,h4⟩,h5⟩
end Go.Proofs.YtbngdgfmlmkgiaaGreat

namespace Go.Proofs.YtbngdgfmlmkgiaaGreat
open Go.RowKit
open Go.Proofs
open Go.Proofs.Ob
open Go.Proofs.Cm (Gd ap)
attribute [local irreducible] Go.Calls Go.wpList
theorem FZ {l:List Nat} (h:l.Nodup) (hk:k<l.length):l.idxOf l[k]=k:=by
 have h1:l.idxOf l[k]<l.length:=List.idxOf_lt_length_of_mem (List.getElem_mem hk);exact (List.getElem_inj h).1 (List.getElem_idxOf h1)
theorem F8 (aZ:1≤n) (bn:n≤64) (hH:Cm.eI n H) (bH:Cm.ar n H O R) {x:List Nat} {w:World} (h:bZ w ov rv (O.map Ma.ah) (R.map (List.map Ma.ah))) (hx:Rg.NP w xv x) (gx:Gd n x) :
  Calls Tryz.prog 82 #[.agg #[.int .i64 ((n:Nat):Int),ov,rv],xv] w (Iz n O R x w):=by
 obtain ⟨oa,oc,cK,-⟩:=h.1.shape;rw [List.length_map,bH.iY] at cK;subst cK;obtain ⟨ra,rc,cK⟩:=h.2.shape;rw [List.length_map,bH.il] at cK;subst cK;obtain ⟨xa,xc,cK,-⟩:=Rg.NP.shape hx;rw [gx.2] at cK;subst cK;have HC:=ι h;have HX:=ι hx;have GX:=ι gx;have HH:=ι hH;have cN:=ι bH;have Ws:=ι (show ∀ i p u,i<n→nG O R i p=some u→Gd n u from fun i p u hi hu=>(zw hH bH).rp.gd i p u (Nat.zero_le _) hi hu);have bG:=jA w (.int .i64 ((n:Nat):Int)) (.slice oa n oc) (.slice ra n rc);have hb:Below w.heap.size w (w.alloc (.cells #[.int .i64 ((n:Nat):Int),.slice oa n oc,.slice ra n rc] 54)):=(Below.refl _ _).alloc (Nat.le_refl _) _;clear h hx gx hH bH
 go_enter Tryz.func82,Tryz.ntmps82
 obtain ⟨cb,qN⟩:∃ cb,w.heap.size=cb:=⟨_,rfl⟩;rw [qN] at bG;go_upto_region 0 with fail
 refine b6<|i8 (Rg.ba _ _ rfl rfl)<|i5 rfl<|i4 rfl ?_;go_frame
 rw [qN];clear qN;generalize w.alloc (.cells #[.int .i64 ((n:Nat):Int),.slice oa n oc,.slice ra n rc] 54)=w0 at *;have A0:=ι bG.1;have A1:=ι bG.2.1;have A2:=ι bG.2.2;have fF:=ι hb;have K:=ι (Below.refl w0.heap.size w0);clear bG hb;go_upto_region 1 with fail
 refine b6<|i4 rfl ?_;go_frame
 have XV:=ι (b_.mk (Rg.NP.below HX.out fF.out));have F_:=ι (show mf (nG O R) (List.range 0) x=some x from rfl);go_wp2
 go_loopw [1,6] (fun yv iv wr=>∃ (i:Nat) (y:List Nat),iv=.int .i64 ((i:Nat):Int)∧i≤n∧Hid (b_ wr yv (Ma.ah y))∧Hid (mf (nG O R) (List.range i) x=some y)∧Hid (Below w0.heap.size w0 wr)) (fun _ iv _=>n - (intOf iv).toNat)
 case atStart=>exact ⟨0,x,rfl,Nat.zero_le _,XV,F_,K⟩
 case round =>
  clear XV F_ K;obtain ⟨i,y,rfl,hi,YV,F_,K⟩:=hrel;generalize wr=wd at *;have GY:=ι (Iy Ws.out (fun q hq=>by have:=List.mem_range.1 hq; omega) GX.out F_.out);obtain ⟨yb,yo,yc,cK,Wt⟩:=YV.out.at GY.out.2 aZ;subst cK
  by_cases aB:i<n
  case neg =>
   have MZ:i=n:=by omega
   have M0:=ι (show ve n O R x=(n,y) from by
    have h5:=F_.out;rw [MZ] at h5
    exact JM h5)
   go_upto_region 2 with fail
   refine b6<|i4 rfl<|i8 (g8 (dD _ _))<|i8 (d8 (.int .i64 ((n:Nat):Int)) ⟨cb,0,none⟩ (af ((Below.cell (p:=⟨cb,0,none⟩) K.out A0.out.lt).trans A0.out.cell)))<|i8 (d9 (.bool false) .lss (h:=aL _ d6)) ?_;go_frame
   go_upto_region 10 with fail;have aw:Below wd.heap.size wd wd.drew:=(Below.refl _ _).drew;replace YV:=ι (YV.out.below aw);replace K:=ι (Rg.acc K.out aw);clear aw;refine Rg.Any.begin (S:=Rg.aH 5 (fun _=>True) (fun W=>Below w0.heap.size w0 W)) mix ?_;generalize wd.drew=gC at *;have hS:∀ (l:Array Bool) W,Below w0.heap.size w0 W→Rg.aH 5 (fun _=>True) (fun W=>Below w0.heap.size w0 W) l W:=fun l W h=>⟨.inr trivial,h⟩;have hI:=K.out
   refine c8 0 5 (.slice (some ⟨yb,yo,none⟩) n yc) 61 (hS _ _ hI)<|c7 2 5 (.pointer (some ⟨cb,0,none⟩)) 63 rfl rfl (g7 fun w=>aA _ rfl rfl (dD _ _)) (hS _ _ hI)<|c7 3 5 (.int .i64 ((n:Nat):Int)) 64 rfl rfl (g6 ⟨cb,0,none⟩ (fun W hW=>af ((Below.cell (p:=⟨cb,0,none⟩) hW A0.out.lt).trans A0.out.cell))) (hS _ _ hI) ?_;go_frame
   refine Rg.Any.one (i:=1) (by kernel_rfl) (Rg.Any.ask (some 62) rfl rfl rfl _ _ (aq 103 _ _ rfl rfl (AD _ _)) ?_);refine (rX _ (Ma.ah y) gC YV.out.i (by rw [Ma.aG,GY.out.2]; omega)).mono ?_;rintro e1 l8 ⟨zv,rfl,M1,hb⟩;have K7:Rg.NP l8 zv y:=Rg.Ints.cm M1 (by rw [Ma.aG,GY.out.2]; omega);clear M1;have cB:=Rg.acc hI hb;have qw:=hb;clear hb hI;refine ⟨_,rfl,(hS _ _ cB),?_⟩;go_frame;have ZV:=ι (b_.mk K7)
   refine c7 4 5 (zv) 4 rfl rfl (g7 fun w=>Rg.fH (v:=zv) _ rfl rfl) (hS _ _ cB)<|g5 5 5 rfl rfl (b5 (.int .i64 ((n:Nat):Int)) _ rfl rfl) (hS _ _ cB) ?_;go_frame
   refine Rg.Any.done (by kernel_rfl) ?_ _;replace YV:=ι (YV.out.below qw);replace K:=ι cB;clear hS cB qw;go_wp2
   go_ret2
   exact ⟨_,by rw [M0.out]; rfl,by rw [M0.out]; exact ZV.out.i,Rg.acc fF.out K.out⟩
  case pos =>
   have bw:=ι aB;obtain ⟨ol,oO⟩:∃ ol:List Nat,Hid (O.getD i []=ol):=⟨_,ι rfl⟩;obtain ⟨rl,mT⟩:∃ rl:List (List Nat),Hid (R.getD i []=rl):=⟨_,ι rfl⟩;have Wf:=gS HH.out cN.out aB;rw [oO.out] at Wf;have CC:=ι (show rl.length=ol.length by rw [← mT.out,← oO.out]; exact cN.out.len i aB);have Wu:=ι (show ol.Pairwise (· < ·) by rw [← oO.out]; exact cN.out.pQ i aB)
   have Ga:i<(O.map Ma.ah).length:=by rw [List.length_map,cN.out.iY]; exact aB
   have u9:i<(R.map (List.map Ma.ah)).length:=by rw [List.length_map,cN.out.il]; exact aB
   obtain ⟨ob,oo,qa,qc,e1,uT,j8,mg⟩:=cQ HC.out.1 Ga;subst e1
   have eO:(O.map Ma.ah)[i]'Ga=Ma.ah ol:=by rw [← oO.out,List.getElem_map,eN (by rw [cN.out.iY]; exact aB)]
   rw [eO,Ma.aG] at j8 mg;obtain ⟨rb,ro,e1,FW,ru,M3,jP⟩:=HC.out.2.Mj u9;subst e1
   have eR:(R.map (List.map Ma.ah))[i]'u9=rl.map Ma.ah:=by rw [← mT.out,List.getElem_map,eN (by rw [cN.out.il]; exact aB)]
   rw [eR] at jP;obtain ⟨ua,uc,cK,-⟩:=jP.shape;rw [List.length_map] at cK;subst cK;have KD:=ι (Rg.acc fF.out K.out);have K9:=ι K.out;have CO:=ι (CL.up (CL.mk j8 uT) KD.out);have CR:=ι (CL.up (CL.mk M3 FW) KD.out);have OI:=ι (Rg.Ints.below mg KD.out);have RI:=ι (Rg.Rows.below jP KD.out);have B0:=ι (A0.out.up K.out);have B1:=ι (A1.out.up K.out);have B2:=ι (A2.out.up K.out);clear K;obtain ⟨q,hq⟩:∃ q:Nat,Hid (ap y i=q):=⟨_,ι rfl⟩;have CY:=ι (show CL wd yb (yo+i) (.int .i64 ((q:Nat):Int)) by rw [← hq.out]; exact Wt i aB);have KE:=ι (Below.refl wd.heap.size wd);have lH:=ι (show ∀ j (h:j<ol.length),j<0→ol[j]≠q from fun j _ h=>absurd h (Nat.not_lt_zero _));clear j8 mg M3 jP uT FW Wt;go_upto_region 2 with fail
   refine b6<|i4 rfl<|i8 (g8 (dD _ _))<|i8 (d8 (.int .i64 ((n:Nat):Int)) ⟨cb,0,none⟩ (af ((Below.cell (p:=⟨cb,0,none⟩) KE.out B0.out.lt).trans B0.out.cell)))<|i8 (d9 (.bool true) .lss (h:=aL _ d5)) ?_;go_frame
   go_upto_region 4 with fail
   refine b6<|i4 rfl ?_;go_frame
   go_wp2
   go_loopw [7] (fun kv wr=>∃ k:Nat,kv=.int .i64 ((k:Nat):Int)∧k≤ol.length∧Hid (∀ j (h:j<ol.length),j<k→ol[j]≠q)∧Hid (Below wd.heap.size wd wr)) (fun kv _=>ol.length - (intOf kv).toNat)
   case atStart=>exact ⟨0,rfl,Nat.zero_le _,lH,KE⟩
   case round =>
    clear lH KE;obtain ⟨k,rfl,hk,lH,KE⟩:=hrel;generalize wr=we at *;have YW:=ι (YV.out.below KE.out)
    by_cases bP:k<ol.length
    case neg =>
     have jx:k=ol.length:=by omega
     have aai:k≤ol.length:=hk
     have aaj:ol.length≤k:=by omega
     have ZB:=ι (show nG O R i (ap y i)=none from JJ (by
      rw [oO.out,hq.out];intro hm;obtain ⟨j,hj,e⟩:=List.getElem_of_mem hm
      exact lH.out j hj (by omega) e))
     have M0:=ι (show ve n O R x=(i,y) from JL aB F_.out ZB.out);clear jx;go_upto_region 5 with fail;have aw:Below we.heap.size we we.drew:=(Below.refl _ _).drew;replace YW:=ι (YW.out.below aw);replace KE:=ι (Rg.acc KE.out aw);clear aw;refine Rg.Any.begin (S:=Rg.aH 22 (fun _=>True) (fun W=>Below wd.heap.size wd W)) mix ?_;generalize we.drew=kA at *;have hS:∀ (l:Array Bool) W,Below wd.heap.size wd W→Rg.aH 22 (fun _=>True) (fun W=>Below wd.heap.size wd W) l W:=fun l W h=>⟨.inr trivial,h⟩;have hI:=KE.out
     refine c8 0 22 (.int .i64 ((k:Nat):Int)) 14 (hS _ _ hI)<|c7 1 22 (.pointer (some ⟨cb,1,none⟩)) 15 rfl rfl (g7 fun w=>aA _ rfl rfl (cq _ _)) (hS _ _ hI)<|c7 2 22 (.slice (some ⟨ob,oo,none⟩) n oc) 16 rfl rfl (g6 ⟨cb,1,none⟩ (fun W hW=>Rg.ae _ _ Tryz.underlying51 ((Below.cell (p:=⟨cb,1,none⟩) hW B1.out.lt).trans B1.out.cell))) (hS _ _ hI)<|c8 3 22 (.int .i64 ((i:Nat):Int)) 17 (hS _ _ hI)<|c7 4 22 (.pointer (some ⟨ob,oo+i,none⟩)) 18 rfl rfl (Rg.ai bF _ _ rfl rfl ob (oo) (n) oc (i) rfl rfl aB) (hS _ _ hI) ?_;go_frame
     refine c7 5 22 (.slice qa ol.length qc) 19 rfl rfl (g6 ⟨ob,oo+i,none⟩ (fun W hW=>Rg.ae _ _ Tryz.underlying25 ((Below.cell (p:=⟨ob,oo+i,none⟩) hW CO.out.lt).trans CO.out.cell))) (hS _ _ hI)<|c7 6 22 (.int .i64 ((ol.length:Nat):Int)) 20 rfl rfl (g7 fun w=>cZ _ _ _ rfl Tryz.underlying25 _ _ _ rfl) (hS _ _ hI)<|c7 7 22 (.bool false) 21 rfl rfl (g7 fun w=>cC (R:=.bool false) .lss _ _ _ rfl rfl rfl (aL _ d6)) (hS _ _ hI)<|c8 8 22 (.bool false) 22 (hS _ _ hI)<|c7 9 22 (undef) 23 rfl rfl (.inr ⟨rfl,rfl⟩) (hS _ _ hI) ?_;go_frame
     refine c7 10 22 (undef) 24 rfl rfl (.inr ⟨rfl,rfl⟩) (hS _ _ hI)<|c7 11 22 (undef) 25 rfl rfl (.inr ⟨rfl,rfl⟩) (hS _ _ hI)<|c7 12 22 (undef) 26 rfl rfl (.inr ⟨rfl,rfl⟩) (hS _ _ hI)<|c7 13 22 (undef) 27 rfl rfl (.inr ⟨rfl,rfl⟩) (hS _ _ hI)<|c7 14 22 (undef) 28 rfl rfl (.inr ⟨rfl,rfl⟩) (hS _ _ hI) ?_;go_frame
     refine c7 15 22 (undef) 29 rfl rfl (.inr ⟨rfl,rfl⟩) (hS _ _ hI)<|c7 16 22 (undef) 30 rfl rfl (.inr ⟨rfl,rfl⟩) (hS _ _ hI)<|c7 17 22 (undef) 31 rfl rfl (.inr ⟨rfl,rfl⟩) (hS _ _ hI)<|c7 18 22 (undef) 32 rfl rfl (.inr ⟨rfl,rfl⟩) (hS _ _ hI)<|c7 19 22 (undef) 33 rfl rfl (.inr ⟨rfl,rfl⟩) (hS _ _ hI) ?_;go_frame
     refine c7 20 22 (undef) 34 rfl rfl (.inr ⟨rfl,rfl⟩) (hS _ _ hI)<|c7 21 22 (undef) 35 rfl rfl (.inr ⟨rfl,rfl⟩) (hS _ _ hI)<|g5 22 36 rfl rfl (f4 (.bool false)) (hS _ _ hI) ?_;go_frame
     refine Rg.Any.done (by kernel_rfl) ?_ _;replace KE:=ι hI;clear hS hI;go_upto_region 7 with fail
     refine b6<|i4 rfl<|i8 (g8 (cq _ _))<|i8 (d8 (.slice (some ⟨ob,oo,none⟩) n oc) ⟨cb,1,none⟩ (Rg.ae _ _ Tryz.underlying51 ((Below.cell (p:=⟨cb,1,none⟩) KE.out B1.out.lt).trans B1.out.cell)))<|i4 rfl ?_;go_frame
     refine i8 (ag bF _ _ rfl ob (oo) (n) oc (i) rfl rfl aB)<|i8 (d8 (.slice qa ol.length qc) ⟨ob,oo+i,none⟩ (Rg.ae _ _ Tryz.underlying25 ((Below.cell (p:=⟨ob,oo+i,none⟩) KE.out CO.out.lt).trans CO.out.cell)))<|i8 (e8 Tryz.underlying25)<|i8 (d9 (.bool true) .eql (h:=cJ _ d5)) ?_;go_frame
     go_upto_region 8 with fail
     refine b6<|i5 rfl ?_;go_frame
     refine d4 48 (aq 103 _ _ rfl rfl (AD _ _)) ?_;refine (rX _ (Ma.ah y) kA YW.out.i (by rw [Ma.aG,GY.out.2]; omega)).mono ?_;rintro e1 O9 ⟨zv,rfl,M1,hb⟩;have K7:Rg.NP O9 zv y:=Rg.Ints.cm M1 (by rw [Ma.aG,GY.out.2]; omega);clear M1;refine ⟨_,rfl,?_⟩;go_frame;replace YW:=ι (YW.out.below hb);replace KE:=ι (Rg.acc KE.out hb);clear hb;have ZV:=ι (b_.mk K7)
     refine i4 rfl<|i3 (zv) rfl<|i4 rfl ?_;go_frame
     go_wp2
     go_ret2
     exact ⟨_,by rw [M0.out]; rfl,by rw [M0.out]; exact ZV.out.i,Rg.acc KD.out KE.out⟩
    case pos =>
     have bd:=ι bP;obtain ⟨sx,sy,e1,Qx,Qy⟩:=hU OI.out (k:=k) (by rw [Ma.aG]; exact bP);subst e1;obtain ⟨p,hp⟩:∃ p,Hid (ol[k]'bP=p):=⟨_,ι rfl⟩;have CP:=ι (show CL wd sx (sy+k) (.int .i64 ((p:Nat):Int)) from ⟨by rw [Qy,Ma.rq,hp.out],Qx⟩);clear Qx Qy
     by_cases SX:p=q
     case neg =>
      have M4:=ι (show ∀ j (h:j<ol.length),j<k+1→ol[j]≠q from fun j hj aJ e=>by
       by_cases ej:j=k
       ·subst ej; exact SX (by rw [← hp.out]; exact e)
       ·exact lH.out j hj (by omega) e)
      go_upto_region 5 with fail;have aw:Below we.heap.size we we.drew:=(Below.refl _ _).drew;replace YW:=ι (YW.out.below aw);replace KE:=ι (Rg.acc KE.out aw);clear aw;refine Rg.Any.begin (S:=Rg.aH 22 (fun _=>True) (fun W=>Below wd.heap.size wd W)) mix ?_;generalize we.drew=Zj at *;have hS:∀ (l:Array Bool) W,Below wd.heap.size wd W→Rg.aH 22 (fun _=>True) (fun W=>Below wd.heap.size wd W) l W:=fun l W h=>⟨.inr trivial,h⟩;have hI:=KE.out
      refine c8 0 22 (.int .i64 ((k:Nat):Int)) 14 (hS _ _ hI)<|c7 1 22 (.pointer (some ⟨cb,1,none⟩)) 15 rfl rfl (g7 fun w=>aA _ rfl rfl (cq _ _)) (hS _ _ hI)<|c7 2 22 (.slice (some ⟨ob,oo,none⟩) n oc) 16 rfl rfl (g6 ⟨cb,1,none⟩ (fun W hW=>Rg.ae _ _ Tryz.underlying51 ((Below.cell (p:=⟨cb,1,none⟩) hW B1.out.lt).trans B1.out.cell))) (hS _ _ hI)<|c8 3 22 (.int .i64 ((i:Nat):Int)) 17 (hS _ _ hI)<|c7 4 22 (.pointer (some ⟨ob,oo+i,none⟩)) 18 rfl rfl (Rg.ai bF _ _ rfl rfl ob (oo) (n) oc (i) rfl rfl aB) (hS _ _ hI) ?_;go_frame
      refine c7 5 22 (.slice (some ⟨sx,sy,none⟩) ol.length qc) 19 rfl rfl (g6 ⟨ob,oo+i,none⟩ (fun W hW=>Rg.ae _ _ Tryz.underlying25 ((Below.cell (p:=⟨ob,oo+i,none⟩) hW CO.out.lt).trans CO.out.cell))) (hS _ _ hI)<|c7 6 22 (.int .i64 ((ol.length:Nat):Int)) 20 rfl rfl (g7 fun w=>cZ _ _ _ rfl Tryz.underlying25 _ _ _ rfl) (hS _ _ hI)<|c7 7 22 (.bool true) 21 rfl rfl (g7 fun w=>cC (R:=.bool true) .lss _ _ _ rfl rfl rfl (aL _ d5)) (hS _ _ hI)<|c8 8 22 (.bool true) 22 (hS _ _ hI)<|c7 9 22 (.pointer (some ⟨cb,1,none⟩)) 23 rfl rfl (g7 fun w=>aA _ rfl rfl (cq _ _)) (hS _ _ hI) ?_;go_frame
      refine c7 10 22 (.slice (some ⟨ob,oo,none⟩) n oc) 24 rfl rfl (g6 ⟨cb,1,none⟩ (fun W hW=>Rg.ae _ _ Tryz.underlying51 ((Below.cell (p:=⟨cb,1,none⟩) hW B1.out.lt).trans B1.out.cell))) (hS _ _ hI)<|c8 11 22 (.int .i64 ((i:Nat):Int)) 25 (hS _ _ hI)<|c7 12 22 (.pointer (some ⟨ob,oo+i,none⟩)) 26 rfl rfl (Rg.ai bF _ _ rfl rfl ob (oo) (n) oc (i) rfl rfl aB) (hS _ _ hI)<|c7 13 22 (.slice (some ⟨sx,sy,none⟩) ol.length qc) 27 rfl rfl (g6 ⟨ob,oo+i,none⟩ (fun W hW=>Rg.ae _ _ Tryz.underlying25 ((Below.cell (p:=⟨ob,oo+i,none⟩) hW CO.out.lt).trans CO.out.cell))) (hS _ _ hI)<|c8 14 22 (.int .i64 ((k:Nat):Int)) 28 (hS _ _ hI) ?_;go_frame
      refine c7 15 22 (.pointer (some ⟨sx,sy+k,none⟩)) 29 rfl rfl (Rg.ai aX _ _ rfl rfl sx (sy) (ol.length) qc (k) rfl rfl bd.out) (hS _ _ hI)<|c7 16 22 (.int .i64 ((p:Nat):Int)) 30 rfl rfl (g6 ⟨sx,sy+k,none⟩ (fun W hW=>af ((Below.cell (p:=⟨sx,sy+k,none⟩) hW CP.out.lt).trans CP.out.cell))) (hS _ _ hI)<|c8 17 22 (.slice (some ⟨yb,yo,none⟩) n yc) 31 (hS _ _ hI)<|c8 18 22 (.int .i64 ((i:Nat):Int)) 32 (hS _ _ hI)<|c7 19 22 (.pointer (some ⟨yb,yo+i,none⟩)) 33 rfl rfl (Rg.ai bK _ _ rfl rfl yb (yo) (n) yc (i) rfl rfl aB) (hS _ _ hI) ?_;go_frame
      refine c7 20 22 (.int .i64 ((q:Nat):Int)) 34 rfl rfl (g6 ⟨yb,yo+i,none⟩ (fun W hW=>af ((Below.cell (p:=⟨yb,yo+i,none⟩) hW CY.out.lt).trans CY.out.cell))) (hS _ _ hI)<|c7 21 22 (.bool true) 35 rfl rfl (g7 fun w=>cC (R:=.bool true) .neq _ _ _ rfl rfl rfl (ax _ d5)) (hS _ _ hI)<|g5 22 36 rfl rfl (f7 (.bool true)) (hS _ _ hI) ?_;go_frame
      refine Rg.Any.done (by kernel_rfl) ?_ _;replace KE:=ι hI;clear hS hI;go_upto_region 6 with fail
      refine b6<|i4 rfl<|i8 (d9 (.int .i64 (((k+1):Nat):Int)) .add (h:=bI _ (by omega) (by omega)))<|i4 rfl ?_;go_frame
      go_wp2
      go_roundw
      case rel=>exact ⟨k+1,by go_num,bd.out,M4,KE⟩
      case measure=>simp [intOf]; have:=bd.out; omega
     case pos =>
      have Gb:k<rl.length:=by rw [CC.out]; exact bP
      obtain ⟨ub,uo,xp,sc,e1,Dm,wL,jV⟩:=cQ RI.out (i:=k) (by rw [List.length_map]; exact Gb);subst e1;obtain ⟨s,hs⟩:∃ s:List Nat,Hid (rl[k]'Gb=s):=⟨_,ι rfl⟩;rw [List.getElem_map,hs.out] at wL jV
      have Wv:=ι (show nG O R i (ap y i)=some s by
       have hm:q∈O.getD i []:=by rw [oO.out,← SX,← hp.out]; exact List.getElem_mem _
       have Ww:ol.idxOf q=k:=by
        rw [← SX,← hp.out];exact FZ (Wu.out.imp fun {a b} h=>Nat.ne_of_lt h) bP
       rw [hq.out,tT (R:=R) hm,oO.out,Ww,mT.out,← hs.out,List.getD_eq_getElem?_getD,List.getElem?_eq_getElem Gb]; rfl)
      have GS:=ι (Ws.out i _ s aB Wv.out);have CS:=ι (CL.mk wL Dm);have SV:=ι (b_.mk (Rg.Ints.below jV KE.out));have ZC:=ι Gb
      have Wx:=ι (show mf (nG O R) (List.range (i+1)) x=some (Ma.aj y (Ma.aO s)) by
       rw [List.range_succ]
       exact zx _ _ _ _ F_.out Wv.out)
      clear wL jV Dm;go_upto_region 5 with fail;have aw:Below we.heap.size we we.drew:=(Below.refl _ _).drew;replace YW:=ι (YW.out.below aw);replace SV:=ι (SV.out.below aw);replace KE:=ι (Rg.acc KE.out aw);clear aw;refine Rg.Any.begin (S:=Rg.aH 22 (fun _=>True) (fun W=>Below wd.heap.size wd W)) mix ?_;generalize we.drew=Wy at *;have hS:∀ (l:Array Bool) W,Below wd.heap.size wd W→Rg.aH 22 (fun _=>True) (fun W=>Below wd.heap.size wd W) l W:=fun l W h=>⟨.inr trivial,h⟩;have hI:=KE.out
      refine c8 0 22 (.int .i64 ((k:Nat):Int)) 14 (hS _ _ hI)<|c7 1 22 (.pointer (some ⟨cb,1,none⟩)) 15 rfl rfl (g7 fun w=>aA _ rfl rfl (cq _ _)) (hS _ _ hI)<|c7 2 22 (.slice (some ⟨ob,oo,none⟩) n oc) 16 rfl rfl (g6 ⟨cb,1,none⟩ (fun W hW=>Rg.ae _ _ Tryz.underlying51 ((Below.cell (p:=⟨cb,1,none⟩) hW B1.out.lt).trans B1.out.cell))) (hS _ _ hI)<|c8 3 22 (.int .i64 ((i:Nat):Int)) 17 (hS _ _ hI)<|c7 4 22 (.pointer (some ⟨ob,oo+i,none⟩)) 18 rfl rfl (Rg.ai bF _ _ rfl rfl ob (oo) (n) oc (i) rfl rfl aB) (hS _ _ hI) ?_;go_frame
      refine c7 5 22 (.slice (some ⟨sx,sy,none⟩) ol.length qc) 19 rfl rfl (g6 ⟨ob,oo+i,none⟩ (fun W hW=>Rg.ae _ _ Tryz.underlying25 ((Below.cell (p:=⟨ob,oo+i,none⟩) hW CO.out.lt).trans CO.out.cell))) (hS _ _ hI)<|c7 6 22 (.int .i64 ((ol.length:Nat):Int)) 20 rfl rfl (g7 fun w=>cZ _ _ _ rfl Tryz.underlying25 _ _ _ rfl) (hS _ _ hI)<|c7 7 22 (.bool true) 21 rfl rfl (g7 fun w=>cC (R:=.bool true) .lss _ _ _ rfl rfl rfl (aL _ d5)) (hS _ _ hI)<|c8 8 22 (.bool true) 22 (hS _ _ hI)<|c7 9 22 (.pointer (some ⟨cb,1,none⟩)) 23 rfl rfl (g7 fun w=>aA _ rfl rfl (cq _ _)) (hS _ _ hI) ?_;go_frame
      refine c7 10 22 (.slice (some ⟨ob,oo,none⟩) n oc) 24 rfl rfl (g6 ⟨cb,1,none⟩ (fun W hW=>Rg.ae _ _ Tryz.underlying51 ((Below.cell (p:=⟨cb,1,none⟩) hW B1.out.lt).trans B1.out.cell))) (hS _ _ hI)<|c8 11 22 (.int .i64 ((i:Nat):Int)) 25 (hS _ _ hI)<|c7 12 22 (.pointer (some ⟨ob,oo+i,none⟩)) 26 rfl rfl (Rg.ai bF _ _ rfl rfl ob (oo) (n) oc (i) rfl rfl aB) (hS _ _ hI)<|c7 13 22 (.slice (some ⟨sx,sy,none⟩) ol.length qc) 27 rfl rfl (g6 ⟨ob,oo+i,none⟩ (fun W hW=>Rg.ae _ _ Tryz.underlying25 ((Below.cell (p:=⟨ob,oo+i,none⟩) hW CO.out.lt).trans CO.out.cell))) (hS _ _ hI)<|c8 14 22 (.int .i64 ((k:Nat):Int)) 28 (hS _ _ hI) ?_;go_frame
      refine c7 15 22 (.pointer (some ⟨sx,sy+k,none⟩)) 29 rfl rfl (Rg.ai aX _ _ rfl rfl sx (sy) (ol.length) qc (k) rfl rfl bd.out) (hS _ _ hI)<|c7 16 22 (.int .i64 ((p:Nat):Int)) 30 rfl rfl (g6 ⟨sx,sy+k,none⟩ (fun W hW=>af ((Below.cell (p:=⟨sx,sy+k,none⟩) hW CP.out.lt).trans CP.out.cell))) (hS _ _ hI)<|c8 17 22 (.slice (some ⟨yb,yo,none⟩) n yc) 31 (hS _ _ hI)<|c8 18 22 (.int .i64 ((i:Nat):Int)) 32 (hS _ _ hI)<|c7 19 22 (.pointer (some ⟨yb,yo+i,none⟩)) 33 rfl rfl (Rg.ai bK _ _ rfl rfl yb (yo) (n) yc (i) rfl rfl aB) (hS _ _ hI) ?_;go_frame
      refine c7 20 22 (.int .i64 ((q:Nat):Int)) 34 rfl rfl (g6 ⟨yb,yo+i,none⟩ (fun W hW=>af ((Below.cell (p:=⟨yb,yo+i,none⟩) hW CY.out.lt).trans CY.out.cell))) (hS _ _ hI)<|c7 21 22 (.bool false) 35 rfl rfl (g7 fun w=>cC (R:=.bool false) .neq _ _ _ rfl rfl rfl (ax _ d6)) (hS _ _ hI)<|g5 22 36 rfl rfl (f7 (.bool false)) (hS _ _ hI) ?_;go_frame
      refine Rg.Any.done (by kernel_rfl) ?_ _;replace KE:=ι hI;clear hS hI;go_upto_region 7 with fail
      refine b6<|i4 rfl<|i8 (g8 (cq _ _))<|i8 (d8 (.slice (some ⟨ob,oo,none⟩) n oc) ⟨cb,1,none⟩ (Rg.ae _ _ Tryz.underlying51 ((Below.cell (p:=⟨cb,1,none⟩) KE.out B1.out.lt).trans B1.out.cell)))<|i4 rfl ?_;go_frame
      refine i8 (ag bF _ _ rfl ob (oo) (n) oc (i) rfl rfl aB)<|i8 (d8 (.slice (some ⟨sx,sy,none⟩) ol.length qc) ⟨ob,oo+i,none⟩ (Rg.ae _ _ Tryz.underlying25 ((Below.cell (p:=⟨ob,oo+i,none⟩) KE.out CO.out.lt).trans CO.out.cell)))<|i8 (e8 Tryz.underlying25)<|i8 (d9 (.bool false) .eql (h:=cJ _ d6)) ?_;go_frame
      go_upto_region 9 with fail
      refine b6<|i5 rfl<|i8 (g8 (dE _ _))<|i8 (d8 (.slice (some ⟨rb,ro,none⟩) n rc) ⟨cb,2,none⟩ (Rg.ae _ _ Tryz.underlying52 ((Below.cell (p:=⟨cb,2,none⟩) KE.out B2.out.lt).trans B2.out.cell)))<|i4 rfl ?_;go_frame
      refine i8 (ag bV _ _ rfl rb (ro) (n) rc (i) rfl rfl aB)<|i8 (d8 (.slice (some ⟨ub,uo,none⟩) rl.length uc) ⟨rb,ro+i,none⟩ (Rg.ae _ _ Tryz.underlying22 ((Below.cell (p:=⟨rb,ro+i,none⟩) KE.out CR.out.lt).trans CR.out.cell)))<|i4 rfl<|i8 (ag aE _ _ rfl ub (uo) (rl.length) uc (k) rfl rfl ZC.out)<|i8 (d8 (.slice xp (Ma.ah s).length sc) ⟨ub,uo+k,none⟩ (Rg.ae _ _ Tryz.underlying26 ((Below.cell (p:=⟨ub,uo+k,none⟩) KE.out CS.out.lt).trans CS.out.cell))) ?_;go_frame
      refine d4 59 (aq 52 _ _ rfl rfl (E5 _ _)) ?_;refine (oC _ s Wy SV.out.i GS.out.1 (by rw [GS.out.2]; omega)).mono ?_;rintro e1 Wz ⟨iv,rfl,uU,hb⟩;have MZ:=uU.1;clear uU;refine ⟨_,rfl,?_⟩;go_frame;replace YW:=ι (YW.out.below hb);replace SV:=ι (SV.out.below hb);replace KE:=ι (Rg.acc KE.out hb);clear hb;have IV:=ι (b_.mk MZ);refine d4 60 (aD 26 _ _ _ rfl rfl rfl (k8 _ _)) ?_;refine (iP _ _ y (Ma.aO s) Wz YW.out.i IV.out.i (fun z hz=>by rw [(Cm.aW GS.out).2]; exact kB GY.out hz) (by rw [GY.out.2]; omega)).mono ?_;rintro e1 aak ⟨mv,rfl,dL,hb⟩;have LB:=dL.1;clear dL;refine ⟨_,rfl,?_⟩;go_frame;replace YW:=ι (YW.out.below hb);replace SV:=ι (SV.out.below hb);replace IV:=ι (IV.out.below hb);replace KE:=ι (Rg.acc KE.out hb);clear hb;have MV:=ι (b_.mk LB);refine i3 (mv) rfl ?_;go_frame;go_upto_region 3 with fail
      refine b6<|i4 rfl<|i8 (d9 (.int .i64 (((i+1):Nat):Int)) .add (h:=bI _ (by omega) (by omega)))<|i4 rfl ?_;go_frame
      go_wp2
      go_roundw
      case rel=>exact ⟨i+1,_,by go_num,bw.out,MV,Wx,ι (Rg.acc K9.out KE.out)⟩
      case measure=>simp [intOf]; have:=bw.out; omega
end Go.Proofs.YtbngdgfmlmkgiaaGreat
