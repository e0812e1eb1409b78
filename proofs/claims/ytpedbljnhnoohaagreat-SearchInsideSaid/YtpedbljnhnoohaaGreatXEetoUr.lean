/- Lemmas and contracts on the way to the statement; no condition of their own beyond those written. -/
import Derived.Test.YtpedbljnhnoohaaGreatXWvtoEc
import Derived.Shelf.SlSortCmp.Whole1
import Derived.Ground.SlsfProg
import Derived.Lib.SmallJoins
import Derived.Deep.Matrix
import Derived.Deep.Strs
import Derived.RangeFuncBound
set_option linter.unusedVariables false
set_option linter.unusedSimpArgs false
set_option maxRecDepth 100000
set_option maxHeartbeats 8000000
variable {w W w' W' w0 X:Go.World} {n B N L j D tc base n₀ cap bytes tk:Nat} {v rv ov u xv v1 v2 u1 u2 yv tv:Go.Value} {F M F' Fk:Nat->Prop} {O gs A O':List (List Nat)} {R R':List (List (List Nat))} {ll OO dK PS:List (List Int)} {RR dL:List (List (List Int))} {H:List Nat->Prop} {d ck:Int} {q:List Nat} {xs:List Go.Value} {xl:List Int}
namespace Go.Proofs.YtpedbljnhnoohaaGreat
open Go.Proofs
section
open Go.Proofs.Cm (Gr Gd ak cj St Fx ap my lexLt)
def Vb (i p:Nat) (a:List Nat) (j:Nat):Bool:=(ap a i == p) && (List.range j).all fun m=>ap a m == m
def Jw (i p:Nat) (a:List Nat):Bool:=Vb i p a i
theorem qz {i p:Nat} {a:List Nat}:Jw i p a=true↔Fx i a/\ap a i=p:=by
 unfold Jw Vb;rw [Bool.and_eq_true,beq_iff_eq,List.all_eq_true]
 constructor
 ·rintro ⟨h1,h2⟩; exact ⟨fun j hj=>by simpa using h2 j (List.mem_range.2 hj),h1⟩
 ·rintro ⟨h1,h2⟩; exact ⟨h2,fun j hj=>by simpa using h1 j (List.mem_range.1 hj)⟩
def oX (A:List (List Nat)) (i p:Nat):List Nat:=(List.range p).filter fun q=>A.any (Jw i q)
def sL (A:List (List Nat)) (i p:Nat):List (List Nat):=(oX A i p).map fun q=>(A.find? (Jw i q)).getD []
theorem zj (A:List (List Nat)) (i p:Nat):(sL A i p).length=(oX A i p).length:=by unfold sL; rw [List.length_map]
theorem BK (x:Nat) (a:List Nat):Ma.af (x :: a)=((x:Nat):Int) :: Ma.af a:=rfl
theorem sM:∀ {a z:List Nat},a.length=z.length->bQ (Ma.af a) (Ma.af z)=true->lexLt a.length a z
 | [],[],_,h=>by simp [Ma.af,bQ] at h
 | [],_ :: _,e,_=>by simp at e
 | _ :: _,[],e,_=>by simp at e
 | x :: a,y :: z,e,h=>by
  rw [BK,BK,bQ] at h
  by_cases Jy:x=y
  ·subst Jy
   rw [if_pos rfl] at h;obtain ⟨j,h1,h2,h3⟩:=sM (by simpa using e) h;refine ⟨j+1,by simpa using h1,fun m hm=>?_,by simpa [ap] using h3⟩
   cases m with
   | zero=>rfl
   | succ m=>simpa [ap] using h2 m (by omega)
  ·rw [if_neg (by omega)] at h
   exact ⟨0,by simp,fun m hm=>absurd hm (Nat.not_lt_zero _),by simpa [ap] using h⟩
theorem kq {α:Type} (f:Nat->List α) {d i:Nat} (h:i<d):((List.range d).map f).getD i []=f i:=by
 rw [List.getD_eq_getElem?_getD,List.getElem?_map,List.getElem?_range h];rfl
theorem MZ {d:Nat} (hg:∀ s∈gs,Gd d s) (hA:gN d gs A) {i p:Nat} {a:List Nat} (h:A.find? (Jw i p)=some a):my d (fun z=>St (Gr d (·∈gs)) i z/\ap z i=p) a:=by
 obtain ⟨h1,k,hk,rfl,h2⟩:=List.find?_eq_some_iff_getElem.1 h;have h3:=qz.1 h1;have gk:=(Gr.bV hg).gd _ ((hA.2 _).1 (List.getElem_mem hk));refine ⟨⟨⟨(hA.2 _).1 (List.getElem_mem hk),h3.1⟩,h3.2⟩,fun z hz=>?_⟩;obtain ⟨j,hj,rfl⟩:=List.getElem_of_mem ((hA.2 z).2 hz.1.1);have gj:=(Gr.bV hg).gd _ ((hA.2 _).1 (List.getElem_mem hj))
 rcases Nat.lt_trichotomy j k with e | e | e
 ·have h4:=h2 j e
  rw [qz.2 ⟨hz.1.2,hz.2⟩] at h4
  cases h4
 ·subst e; exact .inl rfl
 ·have h5:=hA.1 k j (by simpa using hk) (by simpa using hj) e
  simp only [List.getElem_map] at h5;have:=sM (gk.2.trans gj.2.symm) h5;rw [gk.2] at this;exact .inr this
theorem Gi {d:Nat} (hg:∀ s∈gs,Gd d s) (hA:gN d gs A):ak d (Gr d (·∈gs)) ((List.range d).map fun i=>oX A i d) ((List.range d).map fun i=>sL A i d):=by
 have hm:∀ {i p:Nat},i<d->(p∈oX A i d↔∃ x,St (Gr d (·∈gs)) i x/\ap x i=p):=by
  intro i p hi;unfold oX;rw [List.mem_filter,List.mem_range,List.any_eq_true]
  constructor
  ·rintro ⟨_,a,ha,hb⟩
   exact ⟨a,⟨(hA.2 a).1 ha,(qz.1 hb).1⟩,(qz.1 hb).2⟩
  ·rintro ⟨x,hx,rfl⟩
   exact ⟨Cm.bI ((Gr.bV hg).gd x hx.1) hi,x,(hA.2 x).2 hx.1,qz.2 ⟨hx.2,rfl⟩⟩
 refine ⟨by simp,by simp,fun i hi=>?_,fun i p hi=>?_,fun i hi=>?_,fun i k hi hk=>?_⟩
 ·rw [kq _ hi]
  exact List.Pairwise.filter _ List.pairwise_lt_range
 ·rw [kq _ hi]; exact hm hi
 ·rw [kq _ hi,kq _ hi]; exact zj A i d
 ·rw [kq _ hi] at hk ⊢
  rw [kq _ hi]
  have cU:k<(sL A i d).length:=by rw [zj]; exact hk
  rw [Cm.getD_in hk,Cm.getD_in cU]
  have e:(sL A i d)[k]=(A.find? (Jw i (oX A i d)[k])).getD []:=by simp only [sL,List.getElem_map]
  rw [e];have hp:=List.getElem_mem hk;unfold oX at hp;rw [List.mem_filter] at hp
  cases hf:A.find? (Jw i (oX A i d)[k]) with
  | none =>
   exfalso
   obtain ⟨a,ha,hb⟩:=List.any_eq_true.1 hp.2;have:=List.find?_eq_none.1 hf a ha;exact this hb
  | some a=>exact MZ hg hA hf
end
section
open Go.RowKit
open Go.Proofs.Cm (Gd Gr ap)
attribute [local irreducible] Go.Calls Go.wpList
theorem FP.own {x:List Nat} {m:Nat} (h:W'.ownsRow W.heap.size 3 1 v m ((Ma.af x).map (Value.int .i64))) (hm:m<=1000000000):FP (dS F W W') W' v x :=
 Rg.cW.of (Rg.cS.dr h hm) (fun k e=>.inr (h.lt k e))
theorem uh {b o:Nat} (h:W.cell? ⟨b,o,none⟩=some u) (hk:Rg.Kp M W X) (hM:¬ M b):X.cell? ⟨b,o,none⟩=some u:=(World.cell?_of_block (a:=⟨b,o,none⟩) (hk.block b (fN h) hM)).trans h
def Tv (A:List (List Nat)) (n:Nat):List (List Nat):=(List.range n).map fun i=>oX A i n
def Tw (A:List (List Nat)) (n:Nat):List (List (List Nat)):=(List.range n).map fun i=>sL A i n
end
end Go.Proofs.YtpedbljnhnoohaaGreat
namespace Go.Proofs.Km
open Go Go.RowKit
open Go.ChangeMaps
structure KT (P:Program) (t k e v:TypeId) (n:Nat) (z:Value):Prop where
 ht:P.underlying t=some (.map k v)
 hk:P.underlying k=some (.array n e)
 he:P.underlying e=some (.int .u8)
 hs:∀ w,(sizeOf e).run P w=.ok 1 w
 hz:∀ w,(zeroValue v).run P w=.ok z w
section
variable {P:Program} {t k e v:TypeId} {n:Nat} {z:Value}
end
end Go.Proofs.Km
namespace Go.Proofs.YtpedbljnhnoohaaGreat
open Go.RowKit
open Go.Proofs
section
open Go.Proofs.Ob
attribute [local irreducible] Go.Calls Go.wpList
theorem Tx (n:Nat) (hn:n<=1000000) (w:World):(Instr.makeSlice 26 (.int .i64 (n:Int)) (.int .i64 (n:Int))).run Tryz.prog w=.ok (.slice (some ⟨w.heap.size,0,none⟩) n n) (w.alloc (.cells (madeCells #[.int .i64 0] n) 3)) :=
 run_make_row' 26 3 (.int .i64 0) 8 Tryz.underlying26 tu rfl .i64 .i64 n (by omega) (by omega) w
end
section
open Go.Proofs.Ob
open Go.Proofs.Cm (Gd Gr ak ap)
attribute [local irreducible] Go.Calls Go.wpList
def cn (O:List (List Nat)) (N:Nat):Nat->Nat
 | 0=>1
 | d+1=>(O.getD (N - (d+1)) []).length*cn O N d
theorem Dz {O:List (List Nat)} {N:Nat} (hN:N<=12) (h:∀ i,i<N->(O.getD i []).length<=N - i):∀ d,d<=N->cn O N d<=12 ^ d
 | 0,_=>Nat.le_refl _
 | d+1,hd=>by
  have h1:=Dz hN h d (by omega);have h2:=h (N - (d+1)) (by omega);show _*cn O N d<=12 ^ (d+1);rw [Nat.pow_succ,Nat.mul_comm (12 ^ d) 12];exact Nat.mul_le_mul (by omega) h1
theorem Qb (h1:1<=n) (h2:n<=12):(8916100448256:Int)<=Int.tdiv 1000000000000000000 ((n:Nat):Int):=by
 have key:∀ n:Fin 13,1<=n.1->(8916100448256:Int)<=Int.tdiv 1000000000000000000 ((n.1:Nat):Int):=by decide
 exact key ⟨n,by omega⟩ h1
def AK (O:List (List Nat)) (N i:Nat) (j:Nat):Int:=if i<=j then ((cn O N (N - j):Nat):Int) else 0
theorem Qc {i:Nat} (hi:i<N):∀ t,t<N+1->(if t=i then (((O.getD i []).length*cn O N (N - (i+1)):Nat):Int) else AK O N (i+1) t)=AK O N i t:=fun t _=>by
 unfold AK
 by_cases e:t=i
 ·subst e
  rw [if_pos rfl,if_pos (Nat.le_refl _),show N - t=(N - (t+1))+1 by omega,cn,show N - (N - (t+1)+1)=t by omega]
 ·rw [if_neg e]
  by_cases h:i<=t
  ·rw [if_pos (by omega),if_pos h]
  ·rw [if_neg (by omega),if_neg h]
def Ty (O:List (List Nat)) (N:Nat) (w:World) (ed:Ending) (w':World):Prop:=∃ g,ed=.returned (.tuple #[.slice (some ⟨g,0,none⟩) (N+1) (N+1),.bool true])/\cL w' g (N+1) (AK O N 0)/\w.heap.size<=g/\Below w.heap.size w w'
theorem DA (bW:1<=N) (cN:N<=12) (hH:Cm.cj N H) (cQ:ak N H O R) (h:aW w ov rv (O.map Ma.af) (R.map (List.map Ma.af))) :
  Calls Tryz.prog 151 #[.agg #[.int .i64 ((N:Nat):Int),ov,rv]] w (Ty O N w):=by
 obtain ⟨ob,oo,oc,rb,ro,rc,rfl,rfl,-,-⟩:=mM cQ h (i:=0) bW;have HH:=U hH;have dE:=U cQ;have CE:=U h;have WO:=U cN;have K:=U (Below.refl w.heap.size w);have Aj:=U (fun i hi=>hU hH cQ (i:=i) hi);have HPO:=U (fun i (hi:i<N)=>List.length_pos_of_mem ((cQ.orb i i hi).2 ⟨Ma.bh N,⟨hH.one,Cm.Fx.one (by omega)⟩,Cm.cD hi⟩));clear h hH cQ
 go_enter Tryz.func151,Tryz.ntmps151
 go_upto_region 0 with (fail);refine c6 ?_;have aF:=eY w (.int .i64 ((N:Nat):Int)) (.slice (some ⟨ob,oo,none⟩) N oc) (.slice (some ⟨rb,ro,none⟩) N rc);refine d4 1 (Rg.aY _ _ rfl rfl) ?_;go_frame;have hb:=(Below.refl w.heap.size w).alloc (Nat.le_refl _) (.cells #[.int .i64 ((N:Nat):Int),.slice (some ⟨ob,oo,none⟩) N oc,.slice (some ⟨rb,ro,none⟩) N rc] 25);generalize w.alloc (.cells #[.int .i64 ((N:Nat):Int),.slice (some ⟨ob,oo,none⟩) N oc,.slice (some ⟨rb,ro,none⟩) N rc] 25)=w1 at *;replace CE:=U (CE.p.jj hb);replace K:=U (Rg.acc K.p hb);clear hb;have A0:=U aF.1;have A1:=U aF.2.1;have A2:=U aF.2.2;clear aF;refine d6 2 (.slice none 0 0) ?_;go_frame;refine d6 3 (.bool false) ?_;go_frame;go_upto_region 1 with (fail);refine c6 ?_;refine d4 7 (ag _ rfl rfl (fF _ _)) ?_;go_frame;refine d4 8 (g9 (.int .i64 ((N:Nat):Int)) ⟨w.heap.size,0,none⟩ (ah A0.p.cell)) ?_;go_frame
 refine d4 9 (i3 (.int .i64 (((N+1):Nat):Int)) .add (h:=cg _ (by omega) (by omega))) ?_;go_frame;refine d4 10 (py _ _ _ rfl _ _ rfl rfl (Tx (N+1) (by omega) w1)) ?_;go_frame;refine d6 4 (.slice (some ⟨w1.heap.size,0,none⟩) (N+1) (N+1)) ?_;go_frame;have k_:=ze w1 (N+1);have M0:Below w1.heap.size w1 (w1.alloc (.cells (madeCells #[.int .i64 0] (N+1)) 3)):=(Below.refl _ _).alloc (Nat.le_refl _) _;obtain ⟨gb,vK⟩:∃ b,w1.heap.size=b:=⟨_,rfl⟩;have Jz:=U (show w1.heap.size<=gb from Nat.le_of_eq vK);rw [vK] at k_ ⊢;generalize w1.alloc (.cells (madeCells #[.int .i64 0] (N+1)) 3)=wf at *;have RW:=U k_;have KE:=U M0;have HWG:=U (show w.heap.size<=gb from Nat.le_trans K.p.size Jz.p);clear k_ M0 vK;go_upto_region 2 with (fail);refine c6 ?_;refine d5 11 (.slice (some ⟨gb,0,none⟩) (N+1) (N+1)) ?_;go_frame
 refine d4 12 (ag _ rfl rfl (fF _ _)) ?_;go_frame;refine d4 13 (g9 (.int .i64 ((N:Nat):Int)) ⟨w.heap.size,0,none⟩ (ah ((Below.cell (p:=⟨w.heap.size,0,none⟩) KE.p A0.p.lt).trans A0.p.cell))) ?_;go_frame;refine d4 14 (aD cM _ _ rfl gb (0) ((N+1)) (N+1) (N) rfl rfl (Nat.lt_succ_self N)) ?_;go_frame;refine Rg.aA none rfl rfl (Rg.ai _ _ _ rfl _ rfl _ rfl (cy 1 (by rw [Nat.zero_add]; exact RW.p.2.1 N (Nat.lt_succ_self N)) (by rw [Nat.zero_add]; exact RW.p.2.2 N))) ?_;go_frame
 have k_:cL (wf.setCell ⟨gb,0+N,none⟩ (.int .i64 1)) gb (N+1) (AK O N N):=by
  rw [Nat.zero_add];refine (RW.p.set N 1 (Nat.lt_succ_self N)).congr fun t ht=>?_;unfold AK
  by_cases e:t=N
  ·subst e; rw [if_pos rfl,if_pos (Nat.le_refl _),Nat.sub_self]; rfl
  ·rw [if_neg e,if_neg (by omega)]
 have sN:=KE.p.setCell (p:=⟨gb,0+N,none⟩) Jz.p (.int .i64 1);generalize wf.setCell ⟨gb,0+N,none⟩ (.int .i64 1)=wg at *;clear RW KE;have RW:=U k_;have KE:=U sN;clear k_ sN;obtain ⟨i0,oy⟩:∃ i0,Hid (N=i0+1):=⟨N - 1,U (by omega)⟩;go_upto_region 3 with (fail);refine c6 ?_;refine d4 15 (ag _ rfl rfl (fF _ _)) ?_;go_frame;refine d4 16 (g9 (.int .i64 ((N:Nat):Int)) ⟨w.heap.size,0,none⟩ (ah ((Below.cell (p:=⟨w.heap.size,0,none⟩) KE.p A0.p.lt).trans A0.p.cell))) ?_;go_frame;refine d4 17 (i3 (.int .i64 (((N:Nat):Int) - 1)) .sub (h:=lU _ (by omega) (by omega))) ?_;go_frame;refine d6 5 (.int .i64 (((N:Nat):Int) - 1)) ?_;go_frame;have KX:=KE;clear oy i0;go_wp2
 go_loopw [5] (fun iv wr=>∃ i:Nat,iv=.int .i64 (((i:Nat):Int) - 1)/\i<=N/\Hid (cL wr gb (N+1) (AK O N i))/\Hid (Below w1.heap.size w1 wr)) (fun iv _=>(intOf iv+1).toNat)
 case atStart=>exact ⟨N,rfl,Nat.le_refl _,RW,KE⟩
 case round =>
  clear RW KE KX;obtain ⟨i,rfl,hi,RW,KE⟩:=hrel;generalize wr=wd at *;have aad:N<=12:=WO.p
  cases i with
  | zero =>
   have KT:=U (show Below w.heap.size w wd from K.p.trans (KE.p.mono K.p.size));go_upto_region 4 with (fail);refine c6 ?_;refine d5 18 (.int .i64 (((0:Nat):Int) - 1)) ?_;go_frame;refine d4 19 (i3 (.bool false) .geq (h:=sf _ g7)) ?_;go_frame;go_upto_region 10 with (fail);refine c6 ?_;refine d5 46 (.slice (some ⟨gb,0,none⟩) (N+1) (N+1)) ?_;go_frame;refine d6 2 (.slice (some ⟨gb,0,none⟩) (N+1) (N+1)) ?_;go_frame;refine d6 3 (.bool true) ?_;go_frame;go_wp2
   go_ret2
   exact ⟨gb,rfl,RW.p,HWG.p,KT.p⟩
  | succ i =>
   have HI:=U (show i<N by omega)
   have bG:i<N:=by omega
   obtain ⟨ob',oo',vI,rb',ro',y_,e1,e2,⟨ua,uc,zk,rA⟩,-⟩:=mM dE.p CE.p bG
   injection e1 with e1 _ e9
   subst e9
   injection e1 with e1
   injection e1 with e3 e4
   subst e3 e4;clear e2;obtain ⟨n,hn⟩:∃ n:Nat,Hid ((O.getD i []).length=n):=⟨_,U rfl⟩;have aae:=Aj.p i bG;have Vc:=HPO.p i bG;rw [hn.p] at zk aae Vc;have CO:=U zk;obtain ⟨s,hs⟩:∃ s:Nat,Hid (cn O N (N - (i+1))=s):=⟨_,U rfl⟩
   have Vd:s<=743008370688:=by
    have h5:=Dz aad Aj.p (N - (i+1)) (by omega);rw [hs.p] at h5;have h6:=Nat.pow_le_pow_right (n:=12) (by decide) (show N - (i+1)<=11 by omega)
    have e:(12:Nat) ^ 11=743008370688:=by decide
    omega
   obtain ⟨q,hq⟩:∃ q:Int,Hid (Int.tdiv 1000000000000000000 ((n:Nat):Int)=q):=⟨_,U rfl⟩
   have hqb:8916100448256<=q:=by rw [<- hq.p]; exact Qb Vc (by omega)
   have hqt:q<=1000000000000000000:=by rw [<- hq.p]; exact Int.tdiv_le_self _ (by decide)
   have HQF:=U (show decide (((s:Nat):Int) > q)=false from decide_eq_false (by omega));have HQB:=U (show -9223372036854775808<=q/\q<=9223372036854775807 by omega);have yp:=U (show ((n:Nat):Int)≠0 by omega)
   have Js:n*s<=8916100448256:=by
    have h5:=Nat.mul_le_mul (show n<=12 by omega) Vd;omega
   have HPR:=U (show ((n:Nat):Int)*((s:Nat):Int)=(((n*s):Nat):Int) by rw [Int.natCast_mul]);have HPB:=U (show -9223372036854775808<=(((n*s):Nat):Int)/\(((n*s):Nat):Int)<=9223372036854775807 by omega)
   have Qd:=U (show CL wd gb (0+(i+1)) (.int .i64 ((s:Nat):Int)) from CL.mk (by
    rw [Nat.zero_add,RW.p.2.1 (i+1) (by omega)];unfold AK
    rw [if_pos (Nat.le_refl _),hs.p]) RW.p.1)
   clear zk rA Vd hqb hqt Js;have EI:=U (show ((((i+1:Nat)):Int) - 1)=((i:Nat):Int) by omega);rw [EI.p];go_upto_region 4 with (fail);refine c6 ?_;refine d5 18 (.int .i64 ((i:Nat):Int)) ?_;go_frame;refine d4 19 (i3 (.bool true) .geq (h:=sf _ f9)) ?_;go_frame;go_upto_region 6 with (fail);refine c6 ?_;refine d4 22 (ag _ rfl rfl (iZ _ _)) ?_;go_frame;refine d4 23 (g9 (.slice (some ⟨ob,oo,none⟩) N oc) ⟨w.heap.size,1,none⟩ (Rg.ae _ _ Tryz.underlying22 ((Below.cell (p:=⟨w.heap.size,1,none⟩) KE.p A1.p.lt).trans A1.p.cell))) ?_;go_frame;refine d5 24 (.int .i64 ((i:Nat):Int)) ?_;go_frame;refine d4 25 (aD ef _ _ rfl ob (oo) (N) oc (i) rfl rfl HI.p) ?_;go_frame;refine d4 26 (g9 (.slice ua n uc) ⟨ob,oo+i,none⟩ (Rg.ae _ _ Tryz.underlying26 ((Below.cell (p:=⟨ob,oo+i,none⟩) KE.p CO.p.lt).trans CO.p.cell))) ?_;go_frame
   refine d4 27 (i4 Tryz.underlying26) ?_;go_frame;refine d6 6 (.int .i64 ((n:Nat):Int)) ?_;go_frame;go_upto_region 7 with (fail);have aw:Below wd.heap.size wd wd.drew:=(Below.refl _ _).drew;replace Qd:=U (Qd.p.jj aw);replace RW:=U (RW.p.jj aw);replace KE:=U (Rg.acc KE.p aw);clear aw;refine Rg.Any.begin (S:=Rg.aI 7 (fun W=>Below wd.drew.heap.size wd.drew W) (fun W=>Below w1.heap.size w1 W)) mix ?_;generalize wd.drew=Gj at *;have hS:∀ (l:Array Bool) W,Below Gj.heap.size Gj W->Below w1.heap.size w1 W->Rg.aI 7 (fun W=>Below Gj.heap.size Gj W) (fun W=>Below w1.heap.size w1 W) l W:=fun l W h h2=>⟨.inr h,h2⟩;have bT:∀ (l:Array Bool) W,l.getD 7 false=true->Below w1.heap.size w1 W->Rg.aI 7 (fun W=>Below Gj.heap.size Gj W) (fun W=>Below w1.heap.size w1 W) l W:=fun l W h h2=>⟨.inl h,h2⟩;have hI:=KE.p
   refine d7 0 7 (.slice (some ⟨gb,0,none⟩) (N+1) (N+1)) 28 rfl rfl (.inl ⟨rfl,fun w _=>Rg.bL (v:=.slice (some ⟨gb,0,none⟩) (N+1) (N+1)) _ rfl rfl⟩) (hS _ _ (Below.refl _ _) hI) ?_;go_frame;refine d7 1 7 (.int .i64 ((i:Nat):Int)) 29 rfl rfl (.inl ⟨rfl,fun w _=>Rg.bL (v:=.int .i64 ((i:Nat):Int)) _ rfl rfl⟩) (hS _ _ (Below.refl _ _) hI) ?_;go_frame;refine d7 2 7 (.int .i64 (((i+1):Nat):Int)) 30 rfl rfl (.inl ⟨rfl,fun w _=>bN (R:=.int .i64 (((i+1):Nat):Int)) .add _ _ _ rfl rfl rfl (cg _ (by omega) (by omega))⟩) (hS _ _ (Below.refl _ _) hI) ?_;go_frame;refine d7 3 7 (.pointer (some ⟨gb,0+(i+1),none⟩)) 31 rfl rfl (Rg.aJ cM _ _ rfl rfl gb (0) ((N+1)) (N+1) ((i+1)) rfl rfl (by omega)) (hS _ _ (Below.refl _ _) hI) ?_;go_frame;refine i8 4 7 (.int .i64 ((s:Nat):Int)) 32 rfl rfl (j0 ⟨gb,0+(i+1),none⟩ (fun W hW=>ah ((Below.cell (p:=⟨gb,0+(i+1),none⟩) hW Qd.p.lt).trans Qd.p.cell))) (hS _ _ (Below.refl _ _) hI) ?_;go_frame
   refine d7 5 7 (.int .i64 ((n:Nat):Int)) 33 rfl rfl (.inl ⟨rfl,fun w _=>Rg.bL (v:=.int .i64 ((n:Nat):Int)) _ rfl rfl⟩) (hS _ _ (Below.refl _ _) hI) ?_;go_frame;refine d7 6 7 (.int .i64 q) 34 rfl rfl (.inl ⟨rfl,fun w _=>bN (R:=.int .i64 q) .quo _ _ _ rfl rfl rfl (N7 _ yp.p hq.p HQB.p)⟩) (hS _ _ (Below.refl _ _) hI) ?_;go_frame;refine i9 7 35 rfl rfl (i3 (.bool false) .gtr (h:=fD _ HQF.p)) (bT _ _ rfl hI) ?_;go_frame;refine Rg.Any.done (by kernel_rfl) ?_ _;replace KE:=U hI;clear bT;clear hS hI;go_upto_region 9 with (fail);refine c6 ?_;refine d5 36 (.slice (some ⟨gb,0,none⟩) (N+1) (N+1)) ?_;go_frame;refine d5 37 (.int .i64 ((i:Nat):Int)) ?_;go_frame;refine d5 38 (.int .i64 ((n:Nat):Int)) ?_;go_frame;refine d5 39 (.slice (some ⟨gb,0,none⟩) (N+1) (N+1)) ?_;go_frame;refine d5 40 (.int .i64 ((i:Nat):Int)) ?_;go_frame
   refine d4 41 (i3 (.int .i64 (((i+1):Nat):Int)) .add (h:=cg _ (by omega) (by omega))) ?_;go_frame;refine d4 42 (aD cM _ _ rfl gb (0) ((N+1)) (N+1) ((i+1)) rfl rfl (by omega)) ?_;go_frame;refine d4 43 (g9 (.int .i64 ((s:Nat):Int)) ⟨gb,0+(i+1),none⟩ (ah Qd.p.cell)) ?_;go_frame;refine d4 44 (i3 (.int .i64 (((n*s):Nat):Int)) .mul (h:=Im _ HPR.p HPB.p)) ?_;go_frame;refine d4 45 (aD cM _ _ rfl gb (0) ((N+1)) (N+1) (i) rfl rfl (by omega)) ?_;go_frame;refine Rg.aA none rfl rfl (Rg.ai _ _ _ rfl _ rfl _ rfl (cy (((n*s):Nat):Int) (by rw [Nat.zero_add]; exact RW.p.2.1 i (by omega)) (by rw [Nat.zero_add]; exact RW.p.2.2 i))) ?_;go_frame;have RW9:=RW;have sN:=KE.p.setCell (p:=⟨gb,0+i,none⟩) Jz.p (.int .i64 (((n*s):Nat):Int))
   have k_:cL (Gj.setCell ⟨gb,0+i,none⟩ (.int .i64 (((n*s):Nat):Int))) gb (N+1) (AK O N i):=by
    rw [Nat.zero_add];have h5:=Qc (O:=O) bG;rw [hn.p,hs.p] at h5;exact (RW9.p.set i (((n*s):Nat):Int) (by omega)).congr h5
   generalize Gj.setCell ⟨gb,0+i,none⟩ (.int .i64 (((n*s):Nat):Int))=wh at *;have WQ:=U k_;have KE2:=U sN;clear k_ sN;go_upto_region 5 with (fail);refine c6 ?_;refine d5 20 (.int .i64 ((i:Nat):Int)) ?_;go_frame;refine d4 21 (i3 (.int .i64 (((i:Nat):Int) - 1)) .sub (h:=lU _ (by omega) (by omega))) ?_;go_frame;refine d6 5 (.int .i64 (((i:Nat):Int) - 1)) ?_;go_frame;go_wp2
   go_roundw
   case rel=>exact ⟨i,rfl,by omega,WQ,KE2⟩
   case measure=>simp [intOf]

abbrev vU:=List (List Nat) × List (List Int)
def oY (x:List Nat) (wd:List Int) (st:vU) (y:List Nat × Int):vU:=if Ma.ar x y.1∈st.1 then st else (st.1++[Ma.ar x y.1],st.2++[wd++[y.2]])
def Qe (ml:List (List Nat × Int)) (st:vU) (i:Nat):vU:=ml.foldl (oY (st.1.getD i []) (st.2.getD i [])) st
structure BI (N:Nat) (st:vU):Prop where
 nd:st.1.Nodup
 gd:∀ x∈st.1,Gd N x
 ln:st.2.length=st.1.length
 wl:∀ u∈st.2,u.length<=st.1.length
theorem BI.zero (N:Nat):BI N ([Ma.bh N],[[]]):=⟨by simp,fun x hx=>by rw [List.mem_singleton] at hx; rw [hx]; exact Cm.dM N,rfl,fun u hu=>by rw [List.mem_singleton] at hu; rw [hu]; exact Nat.zero_le _⟩
theorem BI.step {st:vU} (h:BI N st) {x:List Nat} {wd:List Int} (hx:Gd N x) (hw:wd.length<=st.1.length) {y:List Nat × Int} (hy:Gd N y.1):BI N (oY x wd st y):=by
 unfold oY
 split
 ·exact h
 ·rename_i hn
  refine ⟨List.nodup_append.2 ⟨h.nd,by simp,fun a ha b hb=>by rw [List.mem_singleton] at hb; rw [hb]; exact fun e=>hn (e▸ha)⟩,fun z hz=>?_,by simp [h.ln],fun u hu=>?_⟩
  ·rcases List.mem_append.1 hz with hz | hz
   ·exact h.gd z hz
   ·rw [List.mem_singleton] at hz; rw [hz]; exact Cm.aT hx hy
  ·simp only [List.length_append,List.length_singleton]
   rcases List.mem_append.1 hu with hu | hu
   ·have:=h.wl u hu; omega
   ·rw [List.mem_singleton] at hu; rw [hu,List.length_append,List.length_singleton]; omega
def Ext (st st':vU):Prop:=st.1 <+: st'.1/\st.2 <+: st'.2
theorem Ext.refl (st:vU):Ext st st:=⟨List.prefix_rfl,List.prefix_rfl⟩
theorem Ext.trans {a b c:vU} (h:Ext a b) (h':Ext b c):Ext a c:=⟨h.1.trans h'.1,h.2.trans h'.2⟩
theorem Ext.step (x:List Nat) (wd:List Int) (st:vU) (y:List Nat × Int):Ext st (oY x wd st y):=by
 unfold oY
 split
 ·exact Ext.refl _
 ·exact ⟨⟨_,rfl⟩,⟨_,rfl⟩⟩
theorem Ext.fold (x:List Nat) (wd:List Int):∀ (l:List (List Nat × Int)) (st:vU),Ext st (l.foldl (oY x wd) st)
 | [],st=>Ext.refl _
 | y :: l,st=>(Ext.step x wd st y).trans (Ext.fold x wd l _)
theorem BI.fold {N:Nat} {x:List Nat} {wd:List Int} (hx:Gd N x):∀ (l:List (List Nat × Int)) (st:vU),(∀ y∈l,Gd N y.1)->BI N st->wd.length<=st.1.length->BI N (l.foldl (oY x wd) st)
 | [],st,_,h,_=>h
 | y :: l,st,hl,h,hw=>BI.fold hx l _ (fun z hz=>hl z (List.mem_cons_of_mem _ hz)) (h.step hx hw (hl y (List.mem_cons_self ..))) (Nat.le_trans hw (Ext.step x wd st y).1.length_le)
theorem BI.row {ml:List (List Nat × Int)} (hm:∀ y∈ml,Gd N y.1) {st:vU} (h:BI N st) {i:Nat} (hi:i<st.1.length):BI N (Qe ml st i):=by
 have e1:st.1.getD i []=st.1[i]:=by simp [List.getD_eq_getElem?_getD,List.getElem?_eq_getElem hi]
 have jE:i<st.2.length:=by rw [h.ln]; exact hi
 have e2:st.2.getD i []=st.2[i]:=by simp [List.getD_eq_getElem?_getD,List.getElem?_eq_getElem jE]
 unfold Qe;rw [e1,e2];exact BI.fold (h.gd _ (List.getElem_mem hi)) ml st hm h (h.wl _ (List.getElem_mem jE))

theorem WR (args:Array Value) (w:World):(callFunc 151 args).run Tryz.prog w=.ok (.enter 151 args) w:=by kernel_rfl
theorem BL {N:Nat} {H:List Nat->Prop} {O:List (List Nat)} {R:List (List (List Nat))} (h:ak N H O R):∀ i,i<=N->(ko N R i).length*cn O N (N - i)=cn O N N
 | 0,_=>by
  show ([Ma.bh N]:List (List Nat)).length*_=_;simp
 | i+1,hi=>by
  have ih:=BL h i (by omega);show (kC (R.getD i []) (ko N R i)).length*_=_;rw [qy,h.len i (by omega),<- ih];obtain ⟨d,hd⟩:∃ d,N - i=d+1:=⟨N - i - 1,by omega⟩
  have e1:N - (i+1)=d:=by omega
  have e2:N - (d+1)=i:=by omega
  rw [hd,e1];show _=_*((O.getD (N - (d+1)) []).length*cn O N d);rw [e2,Nat.mul_comm (O.getD i []).length,Nat.mul_assoc]
theorem Qf (h:ak N H O R):(ko N R N).length=cn O N N:=by
 have:=BL h N (Nat.le_refl _);rw [Nat.sub_self] at this;rw [<- this];show _=_*1;omega
theorem Gk (hg:∀ s∈gs,Gd N s) (bW:1<=N) (cN:N<=12) (cQ:ak N (Cm.Gr N (·∈gs)) O R) (h:aW w ov rv (O.map Ma.af) (R.map (List.map Ma.af))) :
  Calls Tryz.prog 137 #[.agg #[.int .i64 ((N:Nat):Int),ov,rv]] w fun e w'=>e=.returned (.tuple #[.int .i64 ((cn O N N:Nat):Int),.int .i64 0])/\Below w.heap.size w w':=by
 have dY:bn ((N:Nat):Int) (O.map Ma.af) (R.map (List.map Ma.af))=0:=tY (Bq bW (by omega) hg cQ);obtain ⟨oa,oc,e1,-⟩:=h.1.shape;obtain ⟨ra,rc,e2⟩:=h.2.shape;obtain ⟨on,iz⟩:∃ n,(O.map Ma.af).length=n:=⟨_,rfl⟩;obtain ⟨rn,iV⟩:∃ n,(R.map (List.map Ma.af)).length=n:=⟨_,rfl⟩;rw [iz] at e1;rw [iV] at e2;subst e1 e2;clear iz iV;have ui:=U dY;have HC:=U h;have dE:=U cQ;have HG:=U hg;have K:=U (Below.refl w.heap.size w);clear h cQ dY hg
 go_enter Tryz.func137,Tryz.ntmps137
 go_upto_region 0 with (fail);refine c6 ?_;have aF:=eY w (.int .i64 ((N:Nat):Int)) (.slice oa on oc) (.slice ra rn rc);refine d4 1 (Rg.aY _ _ rfl rfl) ?_;go_frame;have hb:=(Below.refl w.heap.size w).alloc (Nat.le_refl _) (.cells #[.int .i64 ((N:Nat):Int),.slice oa on oc,.slice ra rn rc] 25);generalize w.alloc (.cells #[.int .i64 ((N:Nat):Int),.slice oa on oc,.slice ra rn rc] 25)=w1 at *;replace HC:=U (HC.p.jj hb);replace K:=U (Rg.acc K.p hb);clear hb;have A0:=U aF.1;have A1:=U aF.2.1;have A2:=U aF.2.2;clear aF;refine d6 2 (.int .i64 ((0:Nat):Int)) ?_;go_frame;refine d6 3 (.int .i64 ((0:Nat):Int)) ?_;go_frame;go_upto_region 1 with (fail);refine c6 ?_;refine d4 7 (g9 ((.agg #[.int .i64 ((N:Nat):Int),.slice oa on oc,.slice ra rn rc])) ⟨w.heap.size,0,none⟩ (aq A0.p.cell A1.p.cell A2.p.cell)) ?_;go_frame
 refine f8 8 (aE 73 _ _ rfl rfl (vO _ _)) ?_;refine (km HC.p).mono ?_;rintro e1 w2 ⟨rfl,hb⟩;rw [ui.p];refine ⟨_,rfl,?_⟩;go_frame;replace HC:=U (HC.p.jj hb);replace A0:=U (A0.p.jj hb);replace A1:=U (A1.p.jj hb);replace A2:=U (A2.p.jj hb);replace K:=U (Rg.acc K.p hb);clear hb;refine d6 4 (.int .i64 0) ?_;go_frame;go_upto_region 2 with (fail);refine c6 ?_;refine d5 9 (.int .i64 0) ?_;go_frame;refine d4 10 (i3 (.bool false) .neq (h:=aQ _ (decide_eq_false (by decide)))) ?_;go_frame;go_upto_region 4 with (fail);refine c6 ?_;refine d4 13 (g9 ((.agg #[.int .i64 ((N:Nat):Int),.slice oa on oc,.slice ra rn rc])) ⟨w.heap.size,0,none⟩ (aq A0.p.cell A1.p.cell A2.p.cell)) ?_;go_frame;refine f8 14 (aE 151 _ _ rfl rfl (WR _ _)) ?_;refine (DA bW cN (Cm.Gr.bV HG.p) dE.p HC.p).mono ?_
 rintro e1 w3 ⟨sg,rfl,sO,iF,hb⟩;have hcz:CL w3 sg (0+0) (.int .i64 ((cn O N N:Nat):Int)):=⟨by have:=sO.2.1 0 (by omega); rw [this]; unfold AK; simp,sO.1⟩;clear iF sO;refine ⟨_,rfl,?_⟩;go_frame;replace HC:=U (HC.p.jj hb);replace A0:=U (A0.p.jj hb);replace A1:=U (A1.p.jj hb);replace A2:=U (A2.p.jj hb);replace K:=U (Rg.acc K.p hb);clear hb;have CZ:=U hcz;refine d5 12 (.tuple #[.slice (some ⟨sg,0,none⟩) (N+1) (N+1),.bool true]) ?_;go_frame;refine d4 15 (i7 (.slice (some ⟨sg,0,none⟩) (N+1) (N+1))) ?_;go_frame;refine d4 16 (i7 (.bool true)) ?_;go_frame;refine d6 5 (.slice (some ⟨sg,0,none⟩) (N+1) (N+1)) ?_;go_frame;refine d6 6 (.bool true) ?_;go_frame;go_upto_region 5 with (fail);refine c6 ?_;refine d5 17 (.bool true) ?_;go_frame;refine d4 18 (bu _ _ true rfl rfl) ?_;go_frame;go_upto_region 7 with (fail)
 refine c6 ?_;refine d5 19 (.slice (some ⟨sg,0,none⟩) (N+1) (N+1)) ?_;go_frame;refine d4 20 (aD cM _ _ rfl sg (0) ((N+1)) (N+1) (0) rfl rfl (by omega)) ?_;go_frame;refine d4 21 (g9 (.int .i64 (((cn O N N):Nat):Int)) ⟨sg,0+0,none⟩ (ah CZ.p.cell)) ?_;go_frame;refine d6 2 (.int .i64 (((cn O N N):Nat):Int)) ?_;go_frame;refine d6 3 (.int .i64 ((0:Nat):Int)) ?_;go_frame;go_wp2
 go_ret2
 exact ⟨rfl,K.p⟩
end
section
open Go.Proofs.Ob
open Go.Sort
open Go.Proofs.Cm (Gd Gr ak ap)
attribute [local irreducible] Go.Calls Go.wpList
def ElP (F:Nat->Prop) (w:World):={ p:Value × List Int // Rg.FI F w p.1 p.2 }
theorem Qg (F:Nat->Prop) (w:World):Rg.FI F w (.slice none 0 0) []:=⟨none,0,rfl,Nat.le_refl _,Nat.zero_le _,Nat.zero_le _,fun h=>absurd h (Nat.lt_irrefl 0)⟩
instance (F:Nat->Prop) (w:World):Inhabited (ElP F w):=⟨⟨(.slice none 0 0,[]),Qg F w⟩⟩
theorem qA {α:Type} [Inhabited α] {enc:α->Value} {blk m:Nat} {dk:Array α} {os:Array Obj}:Rg.Kp (fun z=>z=blk) w (sortWorld enc w blk 0 m dk os):=by
 refine ⟨rfl,rfl,rfl,by simp [sortWorld,grow,putRow,mapBlock,Sort.ahead],fun k hk hn=>?_⟩;unfold sortWorld;rw [heap_grow_old _ _ (by simpa [putRow,mapBlock,Sort.ahead] using hk)];have:blk≠k:=fun e=>hn e.symm;simp [putRow,mapBlock,Sort.ahead,Array.getElem?_modify,this]

theorem M1 {S T:List (List Nat)} (h:S.Perm T) (hs:(S.map Ma.af).Pairwise (fun a b=>bQ b a=false)) (ht:(T.map Ma.af).Pairwise (fun a b=>bQ b a=false)):S=T:=by
 refine dh ?_;refine List.Perm.eq_of_pairwise (le:=fun a b=>bQ b a=false) ?_ hs ht (h.map _);intro a b _ _ h1 h2
 by_cases e:a=b
 ·exact e
 ·have:=oW h2 e
  rw [h1] at this; cases this
end
end Go.Proofs.YtpedbljnhnoohaaGreat
set_option linter.unusedVariables false
namespace Go.Proofs.YtpedbljnhnoohaaGreat
open Go.RowKit
open Go.Proofs
section
open Go.ChangeShapes Go.WideShapes Go.Deep Go.Joins
attribute [local irreducible] Go.Calls
section
variable {H:Type} {enc:TypeId × Value->H}
theorem qB {base:Nat} {r:Reach} {d:DataW H} {p:List MemPlace} (h:DataW.Trod enc Tryz.prog W 0 (fun _=>true) true 26 v d p) (hv:∃ x,v.cells.toList=[x]/\v=x) :
  ∃ l,Rg.cV maxLen W v l:=by
 obtain ⟨fuel,hf⟩:=h;obtain ⟨x,hc,rfl⟩:=hv;rw [hc] at hf
 rcases open_ints Tryz.underlying26 Tryz.underlying3 Sp hf with ⟨jG,_⟩ | ⟨a,len,cap,zs,jG,_,hl,hm,hz,_,aR,_⟩
 ·obtain rfl:v=.slice none 0 0:=by simpa using jG
  exact ⟨[],none,0,rfl,by simp,Nat.zero_le _,by simp,fun h=>by simp at h⟩
 ·obtain rfl:v=.slice (some a) len cap:=by simpa using jG
  simp only [if_true] at hz
  have hlen:(zs.take len).length=len:=by rw [List.length_take]; omega
  refine ⟨zs.take len,some a,cap,by rw [List.length_map,hlen],by rw [List.length_map,hlen]; exact hl,hm,by rw [List.length_map,hlen]; omega,fun h0=>?_⟩;rw [List.length_map,hlen] at h0;have eJ:=aR 0 (by omega)
  have ha:a=⟨a.block,a.off,none⟩:=by
   have:=Io (a:=a) (by simpa [Addr.add] using eJ)
   cases a; simp at this; subst this; rfl
  refine ⟨a.block,a.off,by rw [<- ha],fN (a:=a) (by simpa [Addr.add] using eJ),fun i hi=>?_⟩;rw [List.length_map,hlen] at hi;rw [<- LX ha i,aR i (by omega)];simp [List.getD,List.getElem?_eq_getElem (show i<zs.length by omega)]
end
end
section
open Go.Proofs.Ob
open Go.Proofs.Cm (Gd Gr ak ap)
attribute [local irreducible] Go.Calls Go.wpList
abbrev WS:=Int × Int × Int
abbrev Ve (T:List (List Nat)) (i:Int):Prop:=0<=i/\i<(T.length:Int)
def rnC (T:List (List Nat)) (s:WS):Int :=
 if s.1≠1/\s.1≠2 then 3 else if ¬ Ve T s.2.1 then 2 else if s.1=1/\¬ Ve T s.2.2 then 2 else 0
def rnE (T:List (List Nat)) (s:WS):List Nat:=if s.1=1 then Ma.ar (T.getD s.2.1.toNat []) (T.getD s.2.2.toNat []) else Ma.aX (T.getD s.2.1.toNat [])
def rn:List WS->List (List Nat)->Int × List (List Nat)
 | [],T=>(0,T)
 | s :: l,T=>if rnC T s≠0 then (rnC T s,T) else rn l (T++[rnE T s])
end
section
open Go.Proofs.Ob
open Go.Proofs.Cm (Tr Gr Gd Sd S3 eG Fx ap ak cj rF St)
structure En where
 b:Nat
 i:Nat
 p:Nat
 x:List Nat
 at_:Nat
 by_:Int
end
section
open Go.Proofs.Ob
attribute [local irreducible] Go.Calls
theorem M3:(Tryz.prog.info? 3).map (fun i=>(i.zero,i.size,i.bytes))=some (some (.int .i64 0),1,8):=by kernel_rfl
theorem lK (X:World) (i:Int):(Instr.buildSlice 26 1 #[(0,.int .i64 i)]).run Tryz.prog X=.ok (.slice (some ⟨X.heap.size,0,none⟩) 1 1) (X.alloc (.cells #[.int .i64 i] 3)):=by
 obtain ⟨i0,hi,cT,bz,dW⟩:=info_parts M3;refine run_buildSlice X 26 3 1 _ _ i0 _ Tryz.underlying26 hi cT (by rw [bz]; decide) (by rw [bz]; decide) ?_;generalize (fun x=>((Value.int .i64 0).cells)[x % (Value.int .i64 0).cells.size]!)=f;rw [bz];have h1:Array.range (1*1)=#[0]:=rfl;simp [Instr.fill,Value.cells,h1]
end
section
open Go.Proofs.Ob
open Go.Sort
open Go.Proofs.Cm (Gd Gr ak ap)
attribute [local irreducible] Go.Calls Go.wpList
def G5:List (List Nat):=[[1,2,3,4,0]]
end
section
open Go.Proofs.Ob
open Go.Proofs.Cm (Gd Gr ak ap)
def rk (x:Int):Nat:=if x<0 then 2*(-x - 1).toNat+1 else 2*(x - 1).toNat
def Lx:List Int->List Int->Prop
 | a :: u,b :: v=>rk a<rk b∨(a=b/\Lx u v)
 | _,_=>False
def SL (u v:List Int):Prop:=u.length<v.length∨(u.length=v.length/\Lx u v)
theorem Lx.trans:∀ {u v w:List Int},Lx u v->Lx v w->Lx u w
 | [],_,_,h,_=>h.elim
 | _ :: _,[],_,h,_=>h.elim
 | _ :: _,_ :: _,[],_,h=>h.elim
 | a :: u,b :: v,c :: w,h,h'=>by
  rcases h with h | ⟨rfl,h⟩ <;> rcases h' with h' | ⟨rfl,h'⟩
  ·exact .inl (Nat.lt_trans h h')
  ·exact .inl h
  ·exact .inl h'
  ·exact .inr ⟨rfl,Lx.trans h h'⟩
theorem Lx.app:∀ {u v:List Int} (s t:List Int),Lx u v->Lx (u++s) (v++t)
 | [],_,_,_,h=>h.elim
 | _ :: _,[],_,_,h=>h.elim
 | a :: u,b :: v,s,t,h=>by
  rcases h with h | ⟨rfl,h⟩
  ·exact .inl h
  ·exact .inr ⟨rfl,Lx.app s t h⟩
theorem SL.trans {u v w:List Int} (h:SL u v) (h':SL v w):SL u w:=by
 rcases h with h | ⟨h,g⟩ <;> rcases h' with h' | ⟨h',g'⟩
 ·exact .inl (by omega)
 ·exact .inl (by omega)
 ·exact .inl (by omega)
 ·exact .inr ⟨by omega,g.trans g'⟩
theorem SL.snoc {u v:List Int} (a b:Int) (h:SL u v):SL (u++[a]) (v++[b]):=by
 rcases h with h | ⟨h,g⟩
 ·exact .inl (by simp; omega)
 ·exact .inr ⟨by simp; omega,g.app _ _⟩
theorem SL.app {u v:List Int} (s:List Int) (h:SL u v):SL (u++s) (v++s):=by
 rcases h with h | ⟨h,g⟩
 ·exact .inl (by simp; omega)
 ·exact .inr ⟨by simp; omega,g.app _ _⟩
end
section
open Go.Proofs.Ob
open Go.Proofs.Cm (Gd Gr ak ap lexLt cj St)
def mO (q o:List Nat) (j:Nat):Nat:=o.countP fun y=>decide (ap q y<ap q (o.getD j 0))
def uj (q o:List Nat) (d m:Nat):Nat:=(List.range m).foldl (fun p j=>if mO q o j=d then j else p) 0
theorem zl (q o:List Nat) (d m:Nat):uj q o d (m+1)=if mO q o m=d then m else uj q o d m:=by
 unfold uj; rw [List.range_succ,List.foldl_append]; rfl
theorem Gl (q o:List Nat) (d:Nat):∀ m,0<m->uj q o d m<m
 | 0,h=>absurd h (Nat.lt_irrefl 0)
 | m+1,_=>by
  rw [zl]
  split
  ·omega
  ·by_cases e:m=0
   ·subst e; exact Nat.zero_lt_one
   ·have:=Gl q o d m (by omega); omega
structure lz (n:Nat) (q o:List Nat):Prop where
 gd:Gd n q
 nd:o.Nodup
 lt:∀ y∈o,y<n
theorem Ld {l:List Nat} (h:l.Nodup) {i:Nat} (hi:i<l.length) (hj:j<l.length) (e:l[i]=l[j]):i=j:=by
 rcases Nat.lt_trichotomy i j with h1 | h1 | h1
 ·exact absurd e (List.pairwise_iff_getElem.1 h i j hi hj h1)
 ·exact h1
 ·exact absurd e.symm (List.pairwise_iff_getElem.1 h j i hj hi h1)
theorem lz.at {o:List Nat} (_:lz n q o) (hj:j<o.length):o.getD j 0=o[j]:=by rw [List.getD_eq_getElem?_getD,List.getElem?_eq_getElem hj]; rfl
theorem lz.inj {o:List Nat} (h:lz n q o) {i:Nat} (hi:i<o.length) (hj:j<o.length) (e:ap q (o.getD i 0)=ap q (o.getD j 0)):i=j:=by
 rw [h.at hi,h.at hj] at e;have e2:=Cm.iu h.gd (h.lt _ (List.getElem_mem hi)) (h.lt _ (List.getElem_mem hj)) e;exact Ld h.nd hi hj e2
theorem zn {α:Type} {l:List α} {p q:α->Bool} (h:∀ x∈l,p x=true->q x=true) {a:α} (ha:a∈l) (h1:p a=false) (h2:q a=true):l.countP p<l.countP q:=by
 induction l with
 | nil=>simp at ha
 | cons x l ih =>
  rw [List.countP_cons,List.countP_cons]
  rcases List.mem_cons.1 ha with rfl | ha
  ·have:=List.countP_mono_left (l:=l) (p:=p) (q:=q) fun y hy=>h y (List.mem_cons_of_mem _ hy)
   rw [h1,h2]; simp; omega
  ·have:=ih (fun y hy=>h y (List.mem_cons_of_mem _ hy)) ha
   have h3:=h x (List.mem_cons_self ..)
   cases e1:p x <;> cases e2:q x <;> simp <;> first | omega | (rw [e1] at h3; have:=h3 rfl; rw [e2] at this; cases this)
theorem lz.mono {o:List Nat} (h:lz n q o) {i:Nat} (hi:i<o.length) (e:ap q (o.getD i 0)<ap q (o.getD j 0)):mO q o i<mO q o j:=by
 refine zn (a:=o[i]) (fun y _ hy=>?_) (List.getElem_mem hi) ?_ ?_
 ·have:=of_decide_eq_true hy; exact decide_eq_true (by omega)
 ·rw [h.at hi]; exact decide_eq_false (Nat.lt_irrefl _)
 ·rw [h.at hi] at e; exact decide_eq_true e
theorem lz.Vf {o:List Nat} (h:lz n q o) {i:Nat} (hi:i<o.length) (hj:j<o.length) (e:mO q o i=mO q o j):i=j:=by
 rcases Nat.lt_trichotomy (ap q (o.getD i 0)) (ap q (o.getD j 0)) with h1 | h1 | h1
 ·have:=h.mono hi h1; omega
 ·exact h.inj hi hj h1
 ·have:=h.mono hj h1; omega
theorem lz.clt {o:List Nat} (h:lz n q o) {i:Nat} (hi:i<o.length):mO q o i<o.length:=by
 have h1:=zn (l:=o) (p:=fun y=>decide (ap q y<ap q (o.getD i 0))) (q:=fun _=>true) (fun _ _ _=>rfl) (List.getElem_mem hi) (by rw [h.at hi]; exact decide_eq_false (Nat.lt_irrefl _)) rfl
 have h2:o.countP (fun _=>true)=o.length:=by simp
 unfold mO; omega
theorem lz.ex {o:List Nat} (h:lz n q o) {d:Nat} (hd:d<o.length):∃ j,j<o.length/\mO q o j=d:=by
 by_cases hh:∃ j,j<o.length/\mO q o j=d
 ·exact hh
 ·exfalso
  have nd:(d :: (List.range o.length).map (mO q o)).Nodup:=by
   refine List.nodup_cons.2 ⟨fun hm=>?_,?_⟩
   ·obtain ⟨j,hj,e⟩:=List.mem_map.1 hm
    exact hh ⟨j,List.mem_range.1 hj,e⟩
   ·refine List.pairwise_iff_getElem.2 fun a b ha hb gi e=>?_
    rw [List.getElem_map,List.getElem_map,List.getElem_range,List.getElem_range] at e;rw [List.length_map,List.length_range] at ha hb;have:=h.Vf ha hb e;omega
  have:=fG nd (m:=List.range o.length) fun x hx=>by
   rcases List.mem_cons.1 hx with rfl | hx
   ·exact List.mem_range.2 hd
   ·obtain ⟨j,hj,rfl⟩:=List.mem_map.1 hx
    exact List.mem_range.2 (h.clt (List.mem_range.1 hj))
  simp at this;omega
theorem lz.pos {n:Nat} {q o:List Nat} (h:lz n q o) {d j:Nat} (hj:j<o.length) (e:mO q o j=d):∀ m,j<m->m<=o.length->uj q o d m=j
 | 0,h1,_=>absurd h1 (Nat.not_lt_zero _)
 | m+1,h1,h2=>by
  rw [zl]
  by_cases e2:j=m
  ·subst e2; rw [if_pos e]
  ·rw [if_neg (fun e3=>e2 (h.Vf hj (by omega) (e.trans e3.symm)))]
   exact h.pos hj e m (by omega) (by omega)
variable {N:Nat} {H:List Nat->Prop} {O:List (List Nat)} {R:List (List (List Nat))}
theorem zp (h:ak N H O R) {i k:Nat} (hi:i<N) (hk:k<(O.getD i []).length):St H i ((R.getD i []).getD k [])/\ap ((R.getD i []).getD k []) i=(O.getD i []).getD k 0:=(h.rep i k hi hk).1
theorem vV (hH:cj N H) (h:ak N H O R) {i:Nat} (hi:i<N):i∈O.getD i [] :=
 (h.orb i i hi).2 ⟨Ma.bh N,⟨hH.one,fun j hj=>Cm.cD (by omega)⟩,Cm.cD hi⟩
theorem sP (hH:cj N H) (h:ak N H O R) {i:Nat} (hi:i<N) (gq:Gd N q):lz N q (O.getD i []) :=
 ⟨gq,(h.jk i hi).imp fun {a b} gi=>Nat.ne_of_lt gi,fun y hy=>by
  obtain ⟨x,hx,rfl⟩:=(h.orb i y hi).1 hy
  exact Cm.bI (hH.gd x hx.1) hi⟩
def AL (O:List (List Nat)) (R:List (List (List Nat))) (i:Nat) (q:List Nat) (d:Nat):List Nat:=(R.getD i []).getD (uj q (O.getD i []) d (O.getD i []).length) []
def qC (N:Nat) (O:List (List Nat)) (R:List (List (List Nat))):Nat->Nat->List Nat->Nat->List Nat
 | 0,_,q,_=>q
 | m+1,i,q,k=>qC N O R m (i+1) (Ma.ar (AL O R i q (k / cn O N m)) q) (k % cn O N m)
theorem DB (hH:cj N H) (h:ak N H O R) {i:Nat} (hi:i<N) (q:List Nat) (d:Nat):St H i (AL O R i q d)/\ap (AL O R i q d) i=(O.getD i []).getD (uj q (O.getD i []) d (O.getD i []).length) 0 :=
 zp h hi (Gl _ _ _ _ (List.length_pos_of_mem (vV hH h hi)))
theorem uk (hH:cj N H) (h:ak N H O R):∀ (m i:Nat) (q:List Nat) (k:Nat),i+m=N->H q->H (qC N O R m i q k)/\∀ j,j<i->ap (qC N O R m i q k) j=ap q j
 | 0,i,q,k,_,hq=>⟨hq,fun _ _=>rfl⟩
 | m+1,i,q,k,e,hq=>by
  have hr:=(DB hH h (show i<N by omega) q (k / cn O N m)).1;obtain ⟨h1,h2⟩:=uk hH h m (i+1) (Ma.ar (AL O R i q (k / cn O N m)) q) (k % cn O N m) (by omega) (hH.mul _ _ hr.1 hq);refine ⟨h1,fun j hj=>?_⟩;show ap (qC N O R m (i+1) _ _) j=_;rw [h2 j (by omega),Cm.bs (hH.gd _ hr.1) (by omega),hr.2 j hj]
theorem Gm (hH:cj N H) (h:ak N H O R):∀ m,m<=N->0<cn O N m
 | 0,_=>Nat.zero_lt_one
 | m+1,hm=>Nat.mul_pos (List.length_pos_of_mem (vV hH h (by omega))) (Gm hH h m (by omega))
theorem Qh {m k:Nat} (hk:k<cn O N (m+1)):k / cn O N m<(O.getD (N - (m+1)) []).length:=by
 have h0:cn O N (m+1)=(O.getD (N - (m+1)) []).length*cn O N m:=rfl;rw [h0] at hk
 by_cases e:cn O N m=0
 ·rw [e] at hk; omega
 ·exact Nat.div_lt_of_lt_mul (by rw [Nat.mul_comm]; exact hk)
theorem Le (hH:cj N H) (h:ak N H O R) {m i k:Nat} (e:i+(m+1)=N) (hq:H q) (hk:k<cn O N (m+1)):∃ j,j<(O.getD i []).length/\uj q (O.getD i []) (k / cn O N m) (O.getD i []).length=j/\mO q (O.getD i []) j=k / cn O N m/\ap (qC N O R (m+1) i q k) i=ap q ((O.getD i []).getD j 0):=by
 have hi:i<N:=by omega
 have ho:=sP hH h hi (hH.gd q hq);obtain ⟨j,hj,hc⟩:=ho.ex (d:=k / cn O N m) (by have:=Qh (O:=O) (N:=N) hk; rwa [show N - (m+1)=i by omega] at this);have hp:=ho.pos hj hc _ hj (Nat.le_refl _);refine ⟨j,hj,hp,hc,?_⟩;obtain ⟨dg,tx⟩:=DB hH h hi q (k / cn O N m);obtain ⟨_,h2⟩:=uk hH h m (i+1) (Ma.ar (AL O R i q (k / cn O N m)) q) (k % cn O N m) (by omega) (hH.mul _ _ dg.1 hq);show ap (qC N O R m (i+1) _ _) i=_;rw [h2 i (by omega),Cm.bs (hH.gd _ dg.1) hi,tx,hp]
theorem BM (hH:cj N H) (h:ak N H O R):∀ (m i:Nat) (q:List Nat) (k k':Nat),i+m=N->H q->k<k'->k' < cn O N m->lexLt N (qC N O R m i q k) (qC N O R m i q k')
 | 0,i,q,k,k',_,_,h1,h2=>by have:k' < 1:=h2; omega
 | m+1,i,q,k,k',e,hq,h1,h2=>by
  obtain ⟨j,hj,hp,hc,ha⟩:=Le hH h (m:=m) (i:=i) e hq (Nat.lt_trans h1 h2);obtain ⟨j',hj',uX,sw,ha'⟩:=Le hH h (m:=m) (i:=i) e hq h2;have hs:=Gm hH h m (by omega)
  have hi:i<N:=by omega
  have ho:=sP hH h hi (hH.gd q hq)
  by_cases hd:k / cn O N m=k' / cn O N m
  ·have aB:k % cn O N m<k' % cn O N m:=by
    have a1:=Nat.div_add_mod k (cn O N m);have a2:=Nat.div_add_mod k' (cn O N m);rw [hd] at a1;omega
   have hr:=(DB hH h hi q (k / cn O N m)).1;have:=BM hH h m (i+1) (Ma.ar (AL O R i q (k / cn O N m)) q) (k % cn O N m) (k' % cn O N m) (by omega) (hH.mul _ _ hr.1 hq) aB (Nat.mod_lt _ hs);show lexLt N (qC N O R m (i+1) _ _) (qC N O R m (i+1) _ _);rw [<- hd];exact this
  ·have aB:k / cn O N m<k' / cn O N m:=Nat.lt_of_le_of_ne (Nat.div_le_div_right (Nat.le_of_lt h1)) hd
   refine ⟨i,hi,fun l hl=>?_,?_⟩
   ·rw [(uk hH h (m+1) i q k e hq).2 l hl,(uk hH h (m+1) i q k' e hq).2 l hl]
   ·rw [ha,ha']
    rcases Nat.lt_trichotomy (ap q ((O.getD i []).getD j 0)) (ap q ((O.getD i []).getD j' 0)) with g | g | g
    ·exact g
    ·have:=ho.inj hj hj' g; subst this; omega
    ·have:=ho.mono hj' g; omega
def gQ (N:Nat) (O:List (List Nat)) (R:List (List (List Nat))):List (List Nat):=(List.range (cn O N N)).map (qC N O R N 0 (Ma.bh N))
theorem M4 {a z:List Nat} (ha:a.length=n) (hz:z.length=n) (h:lexLt n a z):bQ (Ma.af a) (Ma.af z)=true:=by
 cases e:bQ (Ma.af a) (Ma.af z) with
 | true=>rfl
 | false =>
  exfalso
  have hne:Ma.af a≠Ma.af z:=fun e2=>by
   have:=Ma.nE e2;subst this;obtain ⟨j,_,_,h3⟩:=h;exact Nat.lt_irrefl _ h3
  have h2:=sM (by omega) (oW e hne);exact h.asymm h2
theorem fI (hg:∀ s∈gs,Gd N s) (h:ak N (Gr N (·∈gs)) O R):gN N gs (gQ N O R):=by
 have hH:=Cm.Gr.bV hg;have bG:∀ k,Gr N (·∈gs) (qC N O R N 0 (Ma.bh N) k):=fun k=>(uk hH h N 0 _ k (by omega) hH.one).1
 have Vg:MU ((gQ N O R).map Ma.af):=fun a b ha hb gi=>by
  simp only [gQ,List.length_map,List.length_range] at ha hb;simp only [gQ,List.getElem_map,List.getElem_range];exact M4 (hH.gd _ (bG _)).2 (hH.gd _ (bG _)).2 (BM hH h N 0 _ _ _ (by omega) hH.one gi hb)
 refine ⟨Vg,fun y=>⟨fun hy=>?_,fun hy=>?_⟩⟩
 ·obtain ⟨k,_,rfl⟩:=List.mem_map.1 hy
  exact bG k
 ·by_cases hm:y∈gQ N O R
  ·exact hm
  ·exfalso
   obtain ⟨p1,p2⟩:=sK hH h
   have:=fG (l:=y :: gQ N O R) (List.nodup_cons.2 ⟨hm,fZ Vg⟩) (m:=ko N R N) fun x hx=>by
    rw [p2]
    rcases List.mem_cons.1 hx with rfl | hx
    ·exact hy
    ·obtain ⟨k,_,rfl⟩:=List.mem_map.1 hx
     exact bG k
   rw [Qf h] at this;simp [gQ] at this;omega
variable {N:Nat} {H:List Nat->Prop} {O:List (List Nat)} {R:List (List (List Nat))}
theorem Qi {m i d r:Nat} (hr:r<cn O N m):qC N O R (m+1) i q (d*cn O N m+r)=qC N O R m (i+1) (Ma.ar (AL O R i q d) q) r:=by
 have h0:0<cn O N m:=by omega
 show qC N O R m (i+1) (Ma.ar (AL O R i q ((d*cn O N m+r) / cn O N m)) q) ((d*cn O N m+r) % cn O N m)=_
 have e1:(d*cn O N m+r) / cn O N m=d:=by rw [Nat.mul_comm d,Nat.mul_add_div h0,Nat.div_eq_of_lt hr]; exact Nat.add_zero d
 have e2:(d*cn O N m+r) % cn O N m=r:=by rw [Nat.mul_comm d,Nat.mul_add_mod,Nat.mod_eq_of_lt hr]
 rw [e1,e2]
theorem qD {f:Nat->Nat}:∀ {l:List Nat},l.Pairwise (fun a b=>f a<f b)->∀ {d:Nat} (hd:d<l.length),l.countP (fun y=>decide (f y<f l[d]))=d
 | [],_,d,hd=>absurd hd (Nat.not_lt_zero _)
 | x :: l,h,0,_=>by
  rw [List.pairwise_cons] at h;rw [List.countP_eq_zero];intro y hy;have e:(x :: l)[0]=x:=rfl;rw [e]
  rcases List.mem_cons.1 hy with rfl | hy
  ·simp
  ·have:=h.1 y hy
   simp; omega
 | x :: l,h,d+1,hd=>by
  rw [List.pairwise_cons] at h
  have M5:d<l.length:=by simpa using hd
  have e:(x :: l)[d+1]'hd=l[d]:=rfl;rw [e,List.countP_cons,qD h.2 M5,if_pos (decide_eq_true (h.1 _ (List.getElem_mem M5)))]
theorem Gn {o l:List Nat} (ho:lz n q o) (hp:l.Perm o) (hs:l.Pairwise (fun a b=>ap q a<ap q b)) {d:Nat} (hd:d<l.length) :
  o.idxOf l[d]<o.length/\o.getD (o.idxOf l[d]) 0=l[d]/\uj q o d o.length=o.idxOf l[d]:=by
 have hm:l[d]∈o:=hp.mem_iff.1 (List.getElem_mem hd);have hj:=List.idxOf_lt_length_of_mem hm
 have e1:o.getD (o.idxOf l[d]) 0=l[d]:=by rw [ho.at hj]; exact List.getElem_idxOf hj
 refine ⟨hj,e1,ho.pos hj ?_ _ hj (Nat.le_refl _)⟩;unfold mO;rw [e1,<- hp.countP_eq];exact qD hs hd
theorem JA {l:List Nat} (hq:Gd n q) (hl:∀ y∈l,y<n) (hd:l.Nodup) (h:l.Pairwise (fun a b=>ap q a<=ap q b)):l.Pairwise (fun a b=>ap q a<ap q b):=by
 rw [List.pairwise_iff_getElem] at h ⊢;intro i j hi hj vd;have h1:=h i j hi hj vd
 rcases Nat.lt_or_eq_of_le h1 with h3 | h3
 ·exact h3
 ·have:=Ld hd hi hj (Cm.iu hq (hl _ (List.getElem_mem hi)) (hl _ (List.getElem_mem hj)) h3)
  omega
end
end Go.Proofs.YtpedbljnhnoohaaGreat
namespace Go.Proofs
open Go.Shelf
def Tryz.um:Go.Shelf.Ren:=⟨fun | 6=>110 | 15=>139 | 14=>138 | 28=>160 | 29=>161 | 20=>152 | 21=>153 | 22=>154 | 23=>155 | 24=>156 | 25=>157 | 26=>158 | 27=>159 | 46=>175 | 47=>176 | 48=>177 | 49=>178 | 50=>179 | 57=>183 | n=>n,fun | 22=>26 | 24=>3 | 25=>48 | 3=>3 | 39=>177 | 0=>0 | 53=>192 | 55=>194 | 4=>4 | 46=>186 | 45=>185 | 50=>156 | 5=>5 | 9=>9 | 66=>204 | 70=>208 | 76=>212 | 77=>213 | n=>n,fun | n=>n⟩
theorem Tryz.AM:Go.Proofs.SlLaysF.n6 Tryz.prog Tryz.um:={
 mixed:=by kernel_rfl
 f6:=⟨Tryz.f110.name,by decide,Tryz.func110.trans (congrArg some (by kernel_rfl))⟩
 f14:=⟨Tryz.f138.name,by decide,Tryz.func138.trans (congrArg some (by kernel_rfl))⟩
 f15:=Tryz.func139.trans (congrArg some (by kernel_rfl))
 f20:=⟨Tryz.f152.name,by decide,Tryz.func152.trans (congrArg some (by kernel_rfl))⟩
 f21:=⟨Tryz.f153.name,by decide,Tryz.func153.trans (congrArg some (by kernel_rfl))⟩
 f22:=⟨Tryz.f154.name,by decide,Tryz.func154.trans (congrArg some (by kernel_rfl))⟩
 f23:=⟨Tryz.f155.name,by decide,Tryz.func155.trans (congrArg some (by kernel_rfl))⟩
 f24:=⟨Tryz.f156.name,by decide,Tryz.func156.trans (congrArg some (by kernel_rfl))⟩
 f25:=⟨Tryz.f157.name,by decide,Tryz.func157.trans (congrArg some (by kernel_rfl))⟩
 f26:=⟨Tryz.f158.name,by decide,Tryz.func158.trans (congrArg some (by kernel_rfl))⟩
 f27:=⟨Tryz.f159.name,by decide,Tryz.func159.trans (congrArg some (by kernel_rfl))⟩
 f28:=Tryz.func160.trans (congrArg some (by kernel_rfl))
 f29:=Tryz.func161.trans (congrArg some (by kernel_rfl))
 f46:=⟨Tryz.f175.name,by decide,Tryz.func175.trans (congrArg some (by kernel_rfl))⟩
 f47:=Tryz.func176.trans (congrArg some (by kernel_rfl))
 f48:=Tryz.func177.trans (congrArg some (by kernel_rfl))
 f49:=⟨Tryz.f178.name,by decide,Tryz.func178.trans (congrArg some (by kernel_rfl))⟩
 f50:=⟨Tryz.f179.name,by decide,Tryz.func179.trans (congrArg some (by kernel_rfl))⟩
 f57:=⟨Tryz.f183.name,by decide,Tryz.func183.trans (congrArg some (by kernel_rfl))⟩
 t0:=Tryz.underlying0
 a0:=Tryz.isAgg0
 z0:=Tryz.sizeOf0
 v0:=Tryz.zeroValue0
 t3:=Tryz.underlying3
 a3:=Tryz.isAgg3
 z3:=Tryz.sizeOf3
 v3:=Tryz.zeroValue3
 t4:=Tryz.underlying4
 a4:=Tryz.isAgg4
 z4:=Tryz.sizeOf4
 v4:=Tryz.zeroValue4
 t5:=Tryz.underlying5
 a5:=Tryz.isAgg5
 z5:=Tryz.sizeOf5
 v5:=Tryz.zeroValue5
 t9:=Tryz.underlying9
 a9:=Tryz.isAgg9
 z9:=Tryz.sizeOf9
 v9:=Tryz.zeroValue9
 t22:=Tryz.underlying26
 a22:=Tryz.isAgg26
 z22:=Tryz.sizeOf26
 v22:=Tryz.zeroValue26
 a24:=Tryz.isAgg3
 z24:=Tryz.sizeOf3
 t25:=Tryz.underlying48
 a25:=Tryz.isAgg48
 z25:=Tryz.sizeOf48
 v25:=Tryz.zeroValue48
 t39:=Tryz.underlying177
 a39:=Tryz.isAgg177
 z39:=Tryz.sizeOf177
 v39:=Tryz.zeroValue177
 t45:=Tryz.underlying185
 a45:=Tryz.isAgg185
 z45:=Tryz.sizeOf185
 v45:=Tryz.zeroValue185
 t46:=Tryz.underlying186
 a46:=Tryz.isAgg186
 z46:=Tryz.sizeOf186
 v46:=Tryz.zeroValue186
 t50:=Tryz.underlying156
 a50:=Tryz.isAgg156
 z50:=Tryz.sizeOf156
 v50:=Tryz.zeroValue156
 t53:=Tryz.underlying192
 a53:=Tryz.isAgg192
 z53:=Tryz.sizeOf192
 v53:=Tryz.zeroValue192
 t55:=Tryz.underlying194
 a55:=Tryz.isAgg194
 z55:=Tryz.sizeOf194
 v55:=Tryz.zeroValue194
 t66:=Tryz.underlying204
 a66:=Tryz.isAgg204
 z66:=Tryz.sizeOf204
 v66:=Tryz.zeroValue204
 t70:=Tryz.underlying208
 a70:=Tryz.isAgg208
 z70:=Tryz.sizeOf208
 v70:=Tryz.zeroValue208
 t76:=Tryz.underlying212
 a76:=Tryz.isAgg212
 z76:=Tryz.sizeOf212
 v76:=Tryz.zeroValue212
 t77:=Tryz.underlying213
 a77:=Tryz.isAgg213
 z77:=Tryz.sizeOf213
 v77:=Tryz.zeroValue213 }
open Go.RowKit Go.Lib Go.Sort in
theorem Tryz.rB {α:Type} [Inhabited α] (enc:α->Value) (h1:OneCell enc) (cf:α->α->Int) (hO:SWO (ltOf cf)) (g:Nat) (cb:Array Value) (blk off cap:Nat) (d:Array α) (w:World) (eg:∀ args w,(callFunc g args).run Tryz.prog w=.ok (.enter g args) w) (Qj:CmpLays1 Tryz.prog g cb enc cf blk off d.size w) (hH:Holds enc w blk off d) (hblk:blk<w.heap.size) (eS:d.size<4611686018427387904) :
  Calls Tryz.prog 110 #[.slice (some ⟨blk,off,none⟩) d.size cap,.func (.func g) #[] cb] w fun e w' =>
   e=.returned (.tuple #[])/\∃ d' n os,PermIn 0 d.size d d'/\SortedIn (ltOf cf) 0 d.size d'/\w'=sortWorld enc w blk off n d' os:=Any.slices_SortFunc Tryz.AM enc h1 cf hO g cb blk off cap d w eg Qj hH hblk eS
end Go.Proofs
namespace Go.Proofs.YtpedbljnhnoohaaGreat
open Go.RowKit
open Go.Proofs
section
open Go.Proofs.Ob
open Go.Sort
open Go.Proofs.Cm (Gd Gr ak ap lexLt cj St)
attribute [local irreducible] Go.Calls Go.wpList
theorem M6 {uv:Value} {ub:Nat} (gq:Gd N q) (hN:N<=64) (hc:W.cell? ⟨ub,0,none⟩=some uv) (hu:Rg.NP W uv q) {a b:Nat} (ha:a<N) (hb:b<N) :
  Calls Tryz.prog 111 #[.int .i64 ((a:Nat):Int),.int .i64 ((b:Nat):Int),.pointer (some ⟨ub,0,none⟩)] W fun e w'=>e=.returned (.int .i64 (((ap q a:Nat):Int) - ((ap q b:Nat):Int)))/\∃ k,w'=W.drewN k:=by
 obtain ⟨ad,cap,rfl,_,_,_,aR⟩:=hu.shape;have hl:=gq.2;obtain ⟨b0,o0,rfl,_,hr⟩:=aR (by omega);have x1:=hr a (by omega);have x2:=hr b (by omega);have e1:ap q a=q[a]'(by omega):=Cm.j9 (by omega);have e2:ap q b=q[b]'(by omega):=Cm.j9 (by omega);rw [<- e1] at x1;rw [<- e2] at x2;have l1:=Cm.bI gq ha;have l2:=Cm.bI gq hb
 have mA:(a:Int)<(q.length:Int):=by omega
 have eB:(b:Int)<(q.length:Int):=by omega
 clear hr aR hu e1 e2 gq hl;generalize ap q a=x at *;generalize ap q b=y at *
 go_enter Tryz.func111,Tryz.ntmps111
 go_wp2
 go_quiet (fail)
 go_wp2;go_ret;exact ⟨rfl,_,rfl⟩
def M7 (N:Nat):={ x:Nat // x<N }
def AO {N:Nat} (p:M7 N):Value:=.int .i64 ((p.1:Nat):Int)
def JB {N:Nat} (q:List Nat) (a b:M7 N):Int:=((ap q a.1:Nat):Int) - ((ap q b.1:Nat):Int)
theorem aaf (q:List Nat):SWO (ltOf (JB (N:=N) q)) where
 irrefl x:=by simp [ltOf,JB]
 trans x y z h1 h2:=by
  have a1:=of_decide_eq_true h1;have a2:=of_decide_eq_true h2;refine decide_eq_true ?_;unfold JB at *;omega
 ntrans x y z h1 h2:=by
  have a1:=of_decide_eq_false h1;have a2:=of_decide_eq_false h2;refine decide_eq_false ?_;unfold JB at *;omega
theorem WT:∀ (args:Array Value) (w:World),(callFunc 111 args).run Tryz.prog w=.ok (.enter 111 args) w:=fun _ _=>by kernel_rfl
theorem JC {o:List Nat} {uv:Value} {ub:Nat} {blk:Nat} (gq:Gd N q) (hN:N<=64) (hc:W.cell? ⟨ub,0,none⟩=some uv) (sH:ub<W.heap.size) (hne:ub≠blk) (hu:Rg.FI (fun z=>z≠blk) W uv (Ma.af q)) (ho:∀ y∈o,y<N) (ss:o.length<=64)
  (fL:1<=N) (aR:∀ i (h:i<o.length),W.cell? ⟨blk,i,none⟩=some (.int .i64 ((o[i]:Nat):Int))/\W.frozen? ⟨blk,i,none⟩=false) (aB:blk<W.heap.size) :
  Calls Tryz.prog 110 #[.slice (some ⟨blk,0,none⟩) o.length cap,.func (.func 111) #[] #[.pointer (some ⟨ub,0,none⟩)]] W fun e w'=>e=.returned (.tuple #[]) /\
   ∃ l:List Nat,l.Perm o/\l.Pairwise (fun a b=>ap q a<=ap q b)/\(∀ i (h:i<l.length),w'.cell? ⟨blk,i,none⟩=some (.int .i64 ((l[i]:Nat):Int)))/\Rg.Kp (fun z=>z=blk) W w':=by
 have _:Inhabited (M7 N):=⟨⟨0,fL⟩⟩
 obtain ⟨d,hd,hde⟩:∃ d:Array (M7 N),d.size=o.length/\∀ i (h:i<d.size) (h2:i<o.length),d[i].1=o[i] :=
  ⟨Array.ofFn (n:=o.length) fun i=>⟨o[i.1],ho _ (List.getElem_mem i.2)⟩,Array.size_ofFn,fun i h h2=>congrArg Subtype.val (Array.getElem_ofFn h)⟩
 have hH:Holds AO W blk 0 d:=fun j hj=>by
  rw [Nat.zero_add,getElem!_pos d j hj]
  have e:AO d[j]=.int .i64 ((o[j]'(by omega):Nat):Int):=by unfold AO; rw [hde j hj (by omega)]
  rw [e];exact aR j (by omega)
 have Qj:CmpLays1 Tryz.prog 111 #[.pointer (some ⟨ub,0,none⟩)] (AO (N:=N)) (JB q) blk 0 d.size W:=fun m os dk _ x y=>by
  have hk:=qA (enc:=AO) (w:=W) (blk:=blk) (m:=m) (dk:=dk) (os:=os);have hq:=(Rg.FI.kp hu hk (fun z hz e=>hz e)).ints
  have d_:(sortWorld AO W blk 0 m dk os).cell? ⟨ub,0,none⟩=some uv:=by
   rw [<- hc]; unfold World.cell?; rw [hk.block ub sH hne]
  refine (M6 gq hN d_ hq x.2 y.2).mono ?_;rintro e w' ⟨h1,k,h2⟩;exact ⟨h1,k,#[],by rw [h2,grow_empty]⟩
 have hs:=Tryz.rB (AO (N:=N)) (fun x=>rfl) (JB q) (aaf q) 111 #[.pointer (some ⟨ub,0,none⟩)] blk 0 cap d W WT Qj hH aB (by rw [hd]; omega);rw [hd] at hs;refine hs.mono ?_;rintro e w' ⟨rfl,d',m,os,hp,ur,rfl⟩;have hk:=qA (enc:=AO) (w:=W) (blk:=blk) (m:=m) (dk:=d') (os:=os)
 have M5:d'.size=o.length:=by rw [hp.1,hd]
 have xn:d'.extract 0 o.length=d':=by rw [<- M5]; simp
 have hx2:d.extract 0 o.length=d:=by rw [<- hd]; simp
 have hh:=SW.holds (W:=sortWorld AO W blk 0 m d' os) ⟨m,os,rfl⟩ aB hH (by rw [M5,hd]);refine ⟨rfl,d'.toList.map (·.1),?_,?_,fun i h=>?_,hk⟩
 ·have h1:=hp.2.2
  rw [xn,hx2] at h1;have h2:=h1.map (fun p:M7 N=>p.1)
  have e:d.toList.map (fun p:M7 N=>p.1)=o:=by
   apply List.ext_getElem
   ·simp [hd]
   ·intro i h1 h2
    have h3:i<d.size:=by simpa using h1
    rw [List.getElem_map,Array.getElem_toList,hde i h3 h2]
  rwa [e] at h2
 ·rw [List.pairwise_iff_getElem]
  intro i j hi hj vd;simp only [List.length_map,Array.length_toList] at hi hj;have:=ur i j (Nat.zero_le _) vd (by rw [<- M5]; exact hj);rw [getElem!_pos d' j hj,getElem!_pos d' i hi] at this;have h9:=of_decide_eq_false this;unfold JB at h9;simp only [List.getElem_map,Array.getElem_toList];omega
 ·have jE:i<d'.size:=by simpa using h
  have:=(hh i jE).1;rw [Nat.zero_add] at this;rw [this,getElem!_pos d' i jE];simp [AO]
theorem M8 {o:List Nat} {uv:Value} {ub:Nat} (gq:Gd N q) (fL:1<=N) (hN:N<=64) (hc:W.cell? ⟨ub,0,none⟩=some uv) (sH:ub<B) (hB:B<=W.heap.size) (hu:Rg.FI (fun z=>z<B) W uv (Ma.af q)) (ho:∀ y∈o,y<N) (ss:o.length<=64) (YH:1<=o.length)
  (h:W.ownsRow B 3 1 v (Ma.af o).length ((Ma.af o).map (Value.int .i64))) :
  Calls Tryz.prog 110 #[v,.func (.func 111) #[] #[.pointer (some ⟨ub,0,none⟩)]] W fun e w'=>∃ l:List Nat,e=.returned (.tuple #[])/\l.Perm o/\l.Pairwise (fun a b=>ap q a<=ap q b)/\Rg.FI (fun z=>B<=z) w' v (Ma.af l)/\Rg.Kp (fun z=>B<=z) W w':=by
 obtain ⟨h1,h2⟩:=h
 rcases h2 with ⟨_,h0⟩ | ⟨g,cap,cur,rfl,hg,yx,h3,h4,h5,h6⟩
 ·rw [Ma.az] at h0; omega
 rw [Nat.mul_one] at h6;have aB:=(Array.getElem?_eq_some_iff.1 yx).1;have hH:=holds_of_blockI yx h6;rw [Ma.az] at h3 ⊢
 have aR:∀ i (h:i<o.length),W.cell? ⟨g,i,none⟩=some (.int .i64 ((o[i]:Nat):Int))/\W.frozen? ⟨g,i,none⟩=false:=fun i hi=>by
  have jE:i<(Ma.af o).toArray.size:=by simpa [Ma.az] using hi
  have:=hH i jE;rw [Nat.zero_add,getElem!_pos _ i jE] at this
  simpa [Ma.pP] using this
 refine (JC gq hN hc (Nat.lt_of_lt_of_le sH hB) (by omega) (hu.mono fun z hz=>by omega) ho ss fL aR aB).mono ?_;rintro e w' ⟨rfl,l,hp,hs,hl,hk⟩;refine ⟨l,rfl,hp,hs,?_,hk.kF fun z hz=>by omega⟩;have Ay:l.length=o.length:=hp.length_eq
 have vB:((Ma.af l).map (Value.int .i64)).length=o.length:=by rw [List.length_map,Ma.az,Ay]
 refine ⟨some ⟨g,0,none⟩,cap,by rw [vB],by rw [vB]; exact h3,h4,by rw [vB]; omega,fun _=>⟨g,0,rfl,Nat.lt_of_lt_of_le aB hk.size,hg,fun i hi=>?_⟩⟩
 have jE:i<l.length:=by rw [vB] at hi; omega
 rw [Nat.zero_add,hl i jE,List.getElem_map,Ma.pP]
end
section
open Go.Proofs.Ob
open Go.Proofs.Cm (Gd Gr ak ap)
attribute [local irreducible] Go.Calls Go.wpList
theorem M9 (cN:N<=12) (hH:Cm.cj N H) (cQ:ak N H O R) {m:Nat} (hm:m<=N):cn O N m<=8916100448256:=by
 have h5:=Dz cN (fun i hi=>hU hH cQ (i:=i) hi) m hm;have h6:=Nat.pow_le_pow_right (n:=12) (by decide) (show m<=12 by omega)
 have e:(12:Nat) ^ 12=8916100448256:=by decide
 omega
end
section
open Go.Proofs.Ob
open Go.Proofs.Cm (Gd Gr ak ap lexLt cj St)
attribute [local irreducible] Go.Calls Go.wpList
theorem jO {t:TypeId} {ps rs:Array TypeId} {b:Bool} (ht:Tryz.prog.underlying t=some (.func ps rs b)) {ad:Addr} (h:w.cell? ad=some v):(loadVar t ad).run Tryz.prog w=.ok v w:=by
 simp [loadVar,isAgg,run_underlying ht,load];simp [Sem.run,h]
end
end Go.Proofs.YtpedbljnhnoohaaGreat
namespace Go.Proofs.Rg
open Go Go.RowKit
section
variable {n:Nat} {P:Program} {Q:Exit->Act->World->Prop} {md:Region.Mode} {ops:Array Oper}
theorem M_ {id:Nat} {a:Act} {l:List Oper} (hm:P.follows .mixedOrders=true) (h:wpAnyIn Fence.wide n P .any l.toArray Q l.toArray.size (Array.replicate l.toArray.size false) a w.drew):(Code.region id l.toArray true).wp P Q a w :=
 (wpIn_wide (n:=n)).1 (wpIn_region_any hm h)
theorem kD {i m:Nat} {l:Array Bool} {a:Act} (h:wpOpIn Fence.wide n P ops Q i (wpAnyIn Fence.wide n P md ops Q m (l.setIfInBounds i true)) a w) (hr:Region.ready md ops l=[i]:=by kernel_rfl):wpAnyIn Fence.wide n P md ops Q (m+1) l a w :=
 ⟨fun e=>(by rw [hr] at e; cases e),fun j hj=>by
  rw [hr] at hj
  obtain rfl:j=i:=by simpa using hj
  exact h⟩
theorem Lf {i m:Nat} {l:Array Bool} {a:Act} (h:wpOpIn Fence.wide n P ops Q i (wpAnyIn Fence.wide n P md ops Q m (l.setIfInBounds i true)) a w) (h2:wpOpIn Fence.wide n P ops Q j (wpAnyIn Fence.wide n P md ops Q m (l.setIfInBounds j true)) a w) (hr:Region.ready md ops l=[i,j]:=by kernel_rfl):wpAnyIn Fence.wide n P md ops Q (m+1) l a w :=
 ⟨fun e=>(by rw [hr] at e; cases e),fun k hk=>by
  rw [hr] at hk
  rcases List.mem_cons.1 hk with rfl | hk
  ·exact h
  ·obtain rfl:k=j:=by simpa using hk
   exact h2⟩
theorem zq {l:Array Bool} {a:Act} (h:Q .normal a w) (hr:Region.ready md ops l=[]:=by kernel_rfl):wpAnyIn Fence.wide n P md ops Q 0 l a w:=⟨hr,h⟩
theorem mP {i:Nat} {o:Oper} {K:Act->World->Prop} {a:Act} (d:Option Tmp) (hi:ops[i]?=some o) (hd:o.dst=d) (hw:Region.wanted o (yielded ops a.tmps)=true) (hr:(execOp a.eval o).run P w=.ok (.value v) w') (h:K (a.put d v) w'):wpOpIn Fence.wide n P ops Q i K a w:=by
 subst hd;unfold wpOpIn;rw [hi];simp only [hw,if_true];refine ⟨fun _ _=>trivial,?_⟩;rw [show (Fence.wide).round=none from rfl,Oper.semAt_none,hr];exact h
theorem DC {i:Nat} {o:Oper} {K:Act->World->Prop} {a:Act} (d:Option Tmp) (hi:ops[i]?=some o) (hd:o.dst=d) (hw:Region.wanted o (yielded ops a.tmps)=true) (f:FuncId) (args:Array Value) (hr:(execOp a.eval o).run P w=.ok (.enter f args) w) (h:Calls P f args w fun e w'=>∃ v,e=.returned v/\K (a.put d v) w'):wpOpIn Fence.wide n P ops Q i K a w:=by
 subst hd;unfold wpOpIn;rw [hi];simp only [hw,if_true];refine ⟨fun _ _=>trivial,?_⟩;rw [show (Fence.wide).round=none from rfl,Oper.semAt_none,hr];refine ⟨(fun hh=>by cases hh),(callsIn_wide.2 h).mono ?_⟩;rintro e w' ⟨v,rfl,hv⟩;exact hv
theorem vW {i m:Nat} {o:Oper} {K:Act->World->Prop} {a:Act} (d:Option Tmp) (hi:ops[i]?=some o) (hd:o.dst=d) (hw:Region.wanted o (yielded ops a.tmps)=true) (l:Nat) (args:Array Value) (hr:∀ r w',(Instr.yield l args).run P w=.ok r w'->(execOp a.eval o).run P w=.ok r w') (h:YieldAt Fence.wide m P l args w fun e w'=>∃ v,e=.returned v/\K (a.put d v) w') (hm:n - 1=m):wpOpIn Fence.wide n P ops Q i K a w:=by
 subst hd hm;obtain ⟨fn,tmps,asg,bd,hy,hR⟩:=h;unfold wpOpIn;rw [hi];simp only [hw,if_true];refine ⟨fun _ _=>trivial,?_⟩;rw [show (Fence.wide).round=none from rfl,Oper.semAt_none,hr _ _ hy];refine ⟨(fun hh=>by cases hh),hR.mono ?_⟩;rintro e w' ⟨v,rfl,hv⟩;exact hv
end
end Go.Proofs.Rg
namespace Go.Proofs.YtpedbljnhnoohaaGreat
open Go.RowKit
open Go.Proofs
open Go.Proofs.Ob
open Go.Proofs.Cm (Gd Gr ak ap lexLt cj St)
attribute [local irreducible] Go.Calls Go.wpList
theorem qE {o:Oper} {a:Act} {l:Nat} {x1:Value} (f x:Operand) (pW:Array TypeId) (ho:o.op=.call { callee:=.value f,args:=#[x],argTypes:=pW }) (hf:a.eval f=.func (.yield l) #[] #[]) (hx:a.eval x=x1):∀ r w',(Instr.yield l #[x1]).run Tryz.prog w=.ok r w'->(execOp a.eval o).run Tryz.prog w=.ok r w':=by
 intro r w' h;unfold execOp;simp [ho,hx,hf,resolve,invoke,Deferred.ofValue,h]
theorem aag:Tryz.prog.follows .mixedOrders=true:=by kernel_rfl
structure uu (N:Nat) (O:List (List Nat)) (R:List (List (List Nat))) (F:Nat->Prop) (cb yb wb l:Nat) (ov rv:Value) (W:World):Prop where
 fc:F cb
 fy:F yb
 fw:F wb
 c0:W.cell? ⟨cb,0,none⟩=some (.int .i64 ((N:Nat):Int))
 c1:W.cell? ⟨cb,1,none⟩=some ov
 c2:W.cell? ⟨cb,2,none⟩=some rv
 y:W.cell? ⟨yb,0,none⟩=some (.func (.yield l) #[] #[])
 k:W.cell? ⟨wb,0,none⟩=some (.func (.func 108) #[] #[.pointer (some ⟨cb,0,none⟩),.pointer (some ⟨yb,0,none⟩),.pointer (some ⟨wb,0,none⟩)])
 o:Rg.aG F W ov (O.map Ma.af)
 r:bg F W rv (R.map (List.map Ma.af))
 lt:∀ z,F z->z<W.heap.size
section
variable {N:Nat} {O:List (List Nat)} {R:List (List (List Nat))} {F:Nat->Prop} {cb yb wb l:Nat} {ov rv:Value} {W W':World}
theorem qF {C:Nat->Prop} (hk:Rg.Kp C W W') {b k:Nat} (hb:b<W.heap.size) (hn:¬ C b):W'.cell? ⟨b,k,none⟩=W.cell? ⟨b,k,none⟩:=by
 unfold World.cell?; rw [hk.block b hb hn]
theorem uu.kp (h:uu N O R F cb yb wb l ov rv W) {C:Nat->Prop} (hk:Rg.Kp C W W') (hd:∀ z,F z->¬ C z):uu N O R F cb yb wb l ov rv W':=by
 have e:∀ {b k:Nat},F b->W'.cell? ⟨b,k,none⟩=W.cell? ⟨b,k,none⟩:=fun hb=>qF hk (h.lt _ hb) (hd _ hb);exact ⟨h.fc,h.fy,h.fw,(e h.fc).trans h.c0,(e h.fc).trans h.c1,(e h.fc).trans h.c2,(e h.fy).trans h.y,(e h.fw).trans h.k,h.o.kp hk hd,h.r.kp hk hd,fun z hz=>Nat.lt_of_lt_of_le (h.lt z hz) hk.size⟩
theorem uu.jj (h:uu N O R F cb yb wb l ov rv W) (hb:Below W.heap.size W W'):uu N O R F cb yb wb l ov rv W':=h.kp (C:=fun _=>False) (Rg.Kp.aC hb) (fun _ _=>id)
theorem uu.mono (h:uu N O R F cb yb wb l ov rv W) {F':Nat->Prop} (hF:∀ z,F z->F' z) (aB:∀ z,F' z->z<W.heap.size):uu N O R F' cb yb wb l ov rv W :=
 ⟨hF _ h.fc,hF _ h.fy,hF _ h.fw,h.c0,h.c1,h.c2,h.y,h.k,h.o.mono hF,h.r.mono hF,aB⟩
theorem uu.ce (h:uu N O R F cb yb wb l ov rv W):aW W ov rv (O.map Ma.af) (R.map (List.map Ma.af)):=⟨h.o.rows,h.r.rows⟩
end
def WU (l:Nat) (LL:List (List Nat)) (J:Nat->(Nat->Prop)->World->Prop) (Jx:World->Prop):Prop :=
 ∀ (m t:Nat) (C:Nat->Prop) (W:World) (uv:Value),t<LL.length->J t C W->Rg.FI (fun z=>¬ C z) W uv (Ma.af (LL.getD t []))->YieldAt Fence.wide m Tryz.prog l #[uv] W fun e W' =>
  (e=.returned (.bool true)/\∃ C':Nat->Prop,J (t+1) C' W'/\Rg.Kp C W W'/\∀ z,C' z->C z∨W.heap.size<=z)∨(e=.returned (.bool false)/\Jx W')
def Qk (J:Nat->(Nat->Prop)->World->Prop) (Jx:World->Prop) (t:Nat) (C:Nat->Prop) (W:World) (e:Ending) (W':World):Prop :=
 (e=.returned (.bool true)/\∃ C':Nat->Prop,J t C' W'/\Rg.Kp C W W'/\∀ z,C' z->C z∨W.heap.size<=z)∨(e=.returned (.bool false)/\Jx W')
theorem Tz {l:List Int} (h:W.ownsRow B 3 1 v l.length (l.map (Value.int .i64))) (hl:l.length<=1000000):Rg.FI (fun z=>B<=z) W v l:=eX.fi ⟨h⟩ (by omega) (fun k h1 _=>h1)
theorem JD (fL:1<=N) (hN:N<=64) {cb yb wb l:Nat} {LL:List (List Nat)} {J:Nat->(Nat->Prop)->World->Prop} {Jx:World->Prop}
  (hY:WU l LL J Jx) (hJ:∀ t C W W',J t C W->Below W.heap.size W W'->J t C W') (hC:∀ t C W,J t C W->∀ z,C z->z<W.heap.size) {t:Nat} {uv:Value} {C:Nat->Prop} (ht:t<LL.length) (hq:LL.getD t []=q) (gq:Gd N q) (hW:uu N O R F cb yb wb l ov rv W) (hu:Rg.FI F W uv (Ma.af q)) (hj:J t C W) (hd:∀ z,F z->¬ C z) :
  Calls Tryz.prog 108 (#[.int .i64 ((N:Nat):Int),uv]++#[.pointer (some ⟨cb,0,none⟩),.pointer (some ⟨yb,0,none⟩),.pointer (some ⟨wb,0,none⟩)]) W fun e W'=>Qk J Jx (t+1) C W e W':=by
 obtain ⟨n,ua,uc,hn,rfl,-⟩:=hu.len
 obtain rfl:n=N:=by rw [<- hn,Ma.az,gq.2]
 clear hn;have HW:=U hW;have HY:=U hY;have HJ:=U hj;have HU:=U hu;have HD:=U hd;have HQ:=U hq;have A0:=U (show CL W cb 0 (.int .i64 ((n:Nat):Int)) from CL.mk hW.c0 (hW.lt _ hW.fc));clear hY hW hj hu hd hq
 go_enter Tryz.func108,Tryz.ntmps108
 have K:=U (Below.refl W.heap.size W);go_upto_region 0 with (fail);refine c6 ?_;refine d4 6 (jr (v:=.slice ua n uc) _ _ rfl rfl rfl) ?_;go_frame;have aF:CL (W.alloc (.cells #[.slice ua n uc] 27)) W.heap.size 0 (.slice ua n uc):=CL.mk (by rw [Rg.aL]; rfl) (by simp);have hb:=(Below.refl W.heap.size W).alloc (Nat.le_refl _) (.cells #[.slice ua n uc] 27);generalize W.alloc (.cells #[.slice ua n uc] 27)=w1 at *;replace A0:=U (A0.p.jj hb);replace K:=U (Rg.acc K.p hb);clear hb;have BX:=U aF;refine d6 7 (.bool false) ?_;go_frame;go_upto_region 1 with (fail);refine c6 ?_;refine d5 15 (.int .i64 ((n:Nat):Int)) ?_;go_frame;refine d4 16 (ag _ rfl rfl (fF _ _)) ?_;go_frame;refine d4 17 (g9 (.int .i64 ((n:Nat):Int)) ⟨cb,0,none⟩ (ah A0.p.cell)) ?_;go_frame;refine d4 18 (i3 (.bool true) .eql (h:=iN _ (decide_eq_true rfl))) ?_;go_frame
 clear aF;go_upto_region 2 with (fail);refine Rg.M_ (n:=3) aag ?_;have aw:Below w1.heap.size w1 w1.drew:=(Below.refl _ _).drew;replace K:=U (Rg.acc K.p aw);replace BX:=U (BX.p.jj aw);clear aw A0;generalize w1.drew=V at *;have Ql:=U (HW.p.jj K.p);have JE:=U (HU.p.kp (Rg.Kp.aC (M:=fun _=>False) K.p) (fun _ _=>id));have AP:=U (hJ _ _ _ _ HJ.p K.p);have hi:=JE.p.ints;have Qm:=Ql.p.y;have Fe:=BX.p.cell
 have rh:=(oJ (.slice ua n uc) (Ma.af q) V hi (by rw [Ma.az,gq.2]; exact fL) (by rw [Ma.az,gq.2]; omega)).mono (R':=fun e w'=>∃ v,e=.returned v/\w'.cell? ⟨yb,0,none⟩=some (.func (.yield l) #[] #[])/\YieldAt Fence.wide 2 Tryz.prog l #[v] w' (fun e W'=>Qk J Jx (t+1) C W e W')) (by
  rintro e w' ⟨v,rfl,fM,hb⟩;refine ⟨v,rfl,(Ql.p.jj hb).y,YieldAt.mono (HY.p 2 t C w' v ht (hJ _ _ _ _ AP.p hb) ?_) ?_⟩
  ·rw [HQ.p]
   exact (Tz fM (by rw [Ma.az,gq.2]; omega)).mono fun z hz hc=>by
    have:=hC _ _ _ AP.p z hc;omega
  ·rintro e W3 (⟨rfl,C3,h1,h2,h3⟩ | h)
   ·refine .inl ⟨rfl,C3,h1,?_,fun z hz=>?_⟩
    ·exact (Rg.Kp.aC (M:=C) (K.p.trans (hb.mono K.p.size))).trans h2 (fun _ _ h=>h)
    ·rcases h3 z hz with h4 | h4
     ·exact .inl h4
     ·exact .inr (Nat.le_trans (Nat.le_trans K.p.size hb.size) h4)
   ·exact .inr h)
 clear hi;refine Rg.Lf (i:=0) (j:=1) ?_ ?_
 ·skip
  refine Rg.mP (some 19) rfl rfl rfl (g9 (.func (.yield l) #[] #[]) ⟨yb,0,none⟩ (jO Tryz.underlying118 Qm)) ?_;go_frame;refine Rg.kD (i:=1) ?_;refine Rg.mP (some 20) rfl rfl rfl (g9 (.slice ua n uc) ⟨W.heap.size,0,none⟩ (Rg.ae _ _ Tryz.underlying27 Fe)) ?_;go_frame;refine Rg.kD (i:=2) ?_;refine Rg.DC (some 21) rfl rfl rfl _ _ (aE 75 _ _ rfl rfl (vE _ _)) ?_;refine rh.mono ?_;rintro e9 w9 ⟨v9,rfl,Na,Qn⟩;refine ⟨_,rfl,?_⟩;go_frame;refine Rg.kD (i:=3) ?_;refine Rg.vW (some 22) rfl rfl rfl l #[v9] (qE _ _ _ rfl rfl rfl) ?_ rfl;refine Qn.mono ?_;rintro e8 w8 h8
  obtain ⟨bv,rfl⟩:∃ bv,e8=.returned (.bool bv):=by rcases h8 with ⟨rfl,_⟩ | ⟨rfl,_⟩ <;> exact ⟨_,rfl⟩
  refine ⟨_,rfl,?_⟩;go_frame;refine Rg.kD (i:=4) ?_;refine Rg.mP (some 7) rfl rfl rfl (a8 (.bool bv) _ rfl rfl) ?_;go_frame;refine Rg.zq ?_;clear rh Qm Fe Na AP JE Ql K BX HW HY HJ HU HD HQ;go_wp2;go_ret;exact h8
 ·skip
  refine Rg.mP (some 20) rfl rfl rfl (g9 (.slice ua n uc) ⟨W.heap.size,0,none⟩ (Rg.ae _ _ Tryz.underlying27 Fe)) ?_;go_frame;refine Rg.Lf (i:=0) (j:=2) ?_ ?_
  ·skip
   refine Rg.mP (some 19) rfl rfl rfl (g9 (.func (.yield l) #[] #[]) ⟨yb,0,none⟩ (jO Tryz.underlying118 Qm)) ?_;go_frame;refine Rg.kD (i:=2) ?_;refine Rg.DC (some 21) rfl rfl rfl _ _ (aE 75 _ _ rfl rfl (vE _ _)) ?_;refine rh.mono ?_;rintro e9 w9 ⟨v9,rfl,Na,Qn⟩;refine ⟨_,rfl,?_⟩;go_frame;refine Rg.kD (i:=3) ?_;refine Rg.vW (some 22) rfl rfl rfl l #[v9] (qE _ _ _ rfl rfl rfl) ?_ rfl;refine Qn.mono ?_;rintro e8 w8 h8
   obtain ⟨bv,rfl⟩:∃ bv,e8=.returned (.bool bv):=by rcases h8 with ⟨rfl,_⟩ | ⟨rfl,_⟩ <;> exact ⟨_,rfl⟩
   refine ⟨_,rfl,?_⟩;go_frame;refine Rg.kD (i:=4) ?_;refine Rg.mP (some 7) rfl rfl rfl (a8 (.bool bv) _ rfl rfl) ?_;go_frame;refine Rg.zq ?_;clear rh Qm Fe Na AP JE Ql K BX HW HY HJ HU HD HQ;go_wp2;go_ret;exact h8
  ·skip
   refine Rg.DC (some 21) rfl rfl rfl _ _ (aE 75 _ _ rfl rfl (vE _ _)) ?_;refine rh.mono ?_;rintro e9 w9 ⟨v9,rfl,Na,Qn⟩;refine ⟨_,rfl,?_⟩;go_frame;refine Rg.kD (i:=0) ?_;refine Rg.mP (some 19) rfl rfl rfl (g9 (.func (.yield l) #[] #[]) ⟨yb,0,none⟩ (jO Tryz.underlying118 Na)) ?_;go_frame;refine Rg.kD (i:=3) ?_;refine Rg.vW (some 22) rfl rfl rfl l #[v9] (qE _ _ _ rfl rfl rfl) ?_ rfl;refine Qn.mono ?_;rintro e8 w8 h8
   obtain ⟨bv,rfl⟩:∃ bv,e8=.returned (.bool bv):=by rcases h8 with ⟨rfl,_⟩ | ⟨rfl,_⟩ <;> exact ⟨_,rfl⟩
   refine ⟨_,rfl,?_⟩;go_frame;refine Rg.kD (i:=4) ?_;refine Rg.mP (some 7) rfl rfl rfl (a8 (.bool bv) _ rfl rfl) ?_;go_frame;refine Rg.zq ?_;clear rh Qm Fe Na AP JE Ql K BX HW HY HJ HU HD HQ;go_wp2;go_ret;exact h8

theorem WV (args:Array Value) (w:World):(callFunc 109 args).run Tryz.prog w=.ok (.enter 109 args) w:=by kernel_rfl
theorem WW (args:Array Value) (w:World):(callFunc 110 args).run Tryz.prog w=.ok (.enter 110 args) w:=by kernel_rfl
theorem WX (args:Array Value) (w:World):(callFunc 113 args).run Tryz.prog w=.ok (.enter 113 args) w:=by kernel_rfl
theorem vX {l:List Int} (h:Rg.FI F W v l):Rg.FI (fun z=>F z/\z<W.heap.size) W v l:=by
 obtain ⟨a,cap,h1,h2,h3,h4,h5⟩:=h;refine ⟨a,cap,h1,h2,h3,h4,fun h0=>?_⟩;obtain ⟨b,o,e1,e2,e3,e4⟩:=h5 h0;exact ⟨b,o,e1,e2,⟨e3,e2⟩,e4⟩
theorem BO {x:List Nat} (h:Rg.rT w W v x):Rg.FI (fun z=>w.heap.size<=z) W v (Ma.af x):=by
 obtain ⟨h1,h2⟩:=h;refine Rg.cW.of h1 fun b hb=>?_
 cases v with
 | slice a n c=>cases a with
  | none=>simp [Value.ownBlock] at hb
  | some a=>simp [Value.ownBlock] at hb; subst hb; exact h2 a n c rfl
 | _=>simp [Value.ownBlock] at hb
theorem zr {o:Oper} {a:Act} {u3 x1 y1:Value} (F:FuncId) (f x y:Operand) (pW:Array TypeId) (ho:o.op=.call { callee:=.value f,args:=#[x,y],argTypes:=pW }) (hf:a.eval f=.func (.func F) #[] #[u1,u2,u3]) (hx:a.eval x=x1) (hy:a.eval y=y1)
  (hF:(callFunc F #[x1,y1,u1,u2,u3]).run Tryz.prog w=.ok (.enter F #[x1,y1,u1,u2,u3]) w):(execOp a.eval o).run Tryz.prog w=.ok (.enter F #[x1,y1,u1,u2,u3]) w:=by
 unfold execOp;simp [ho,hx,hy,hf,resolve,invoke,Deferred.ofValue,hF]
theorem Qo (args:Array Value) (w:World):(callFunc 108 args).run Tryz.prog w=.ok (.enter 108 args) w:=by kernel_rfl
theorem JF (fL:1<=N) (hN:N<=64) (hH:cj N H) (cQ:ak N H O R) {cb yb wb l:Nat} {LL:List (List Nat)} {J:Nat->(Nat->Prop)->World->Prop} {Jx:World->Prop}
  (hY:WU l LL J Jx) (hJ:∀ t C W W',J t C W->Below W.heap.size W W'->J t C W') (hC:∀ t C W,J t C W->∀ z,C z->z<W.heap.size):∀ (m i t:Nat) (q:List Nat) (uv:Value) (F C:Nat->Prop) (w:World),i+m=N->t+cn O N m<=LL.length->(∀ r,r<cn O N m->LL.getD (t+r) []=qC N O R m i q r)->H q ->
  uu N O R F cb yb wb l ov rv w->Rg.FI F w uv (Ma.af q)->J t C w->(∀ z,F z->¬ C z) ->
  Calls Tryz.prog 108 (#[.int .i64 ((i:Nat):Int),uv]++#[.pointer (some ⟨cb,0,none⟩),.pointer (some ⟨yb,0,none⟩),.pointer (some ⟨wb,0,none⟩)]) w fun e W'=>Qk J Jx (t+cn O N m) C w e W':=by
 intro m
 induction m with
 | zero =>
  intro i t q uv F C w hi ht hr hq hW hu hj hd
  obtain rfl:i=N:=by omega
  exact JD fL hN hY hJ hC (by have:cn O i 0=1:=rfl; omega) (hr 0 Nat.zero_lt_one) (hH.gd q hq) hW hu hj hd
 | succ m ih =>
  intro i t q uv F C w hi ht hr hq hW hu hj hd;have gq:=hH.gd q hq
  have bG:i<N:=by omega
  obtain ⟨n,ua,uc,hn,rfl,-⟩:=hu.len
  obtain rfl:n=N:=by rw [<- hn,Ma.az,gq.2]
  clear hn;obtain ⟨s,hs⟩:∃ s:Nat,Hid (cn O n m=s):=⟨_,U rfl⟩;obtain ⟨os,ry⟩:∃ l,Hid (O.getD i []=l):=⟨_,U rfl⟩;obtain ⟨rl,oP⟩:∃ l,Hid (R.getD i []=l):=⟨_,U rfl⟩;have Qp:=U (sP hH cQ bG gq);have HOP:=U (List.length_pos_of_mem (vV hH cQ bG));have Aj:=U (show (O.getD i []).length<=64 from Nat.le_trans (hU hH cQ bG) (by omega));have Fi:=U (cQ.len i bG);have HAS:=U (cQ.jk i bG);have yS:=U (show cn O n (m+1)=(O.getD i []).length*s by rw [<- hs.p]; show (O.getD (n - (m+1)) []).length*_=_; rw [show n - (m+1)=i by omega]);obtain ⟨ob,oo,oc,rb,ro,rc,rfl,rfl,⟨ob2,OM,zk,rA⟩,⟨va,vc,Nb,Dv⟩⟩:=mM cQ hW.ce bG;rw [ry.p] at zk rA Nb Dv Qp HOP Aj Fi HAS yS;rw [oP.p] at Dv Fi;have hop:0<os.length:=HOP.p;have ss:os.length<=64:=Aj.p;have A0:=U (show CL w cb 0 (.int .i64 ((n:Nat):Int)) from CL.mk hW.c0 (hW.lt _ hW.fc))
  have A1:=U (show CL w cb 1 (.slice (some ⟨ob,oo,none⟩) n oc) from CL.mk hW.c1 (hW.lt _ hW.fc));have A2:=U (show CL w cb 2 (.slice (some ⟨rb,ro,none⟩) n rc) from CL.mk hW.c2 (hW.lt _ hW.fc));have CO:=U zk;have NO:=U (dm.mk rA);have HW:=U hW;have HU:=U hu;have HJ:=U hj;have HD:=U hd;have HQ:=U hq;have HR:=U hr;have HT:=U ht;have HI:=U hi;have q9:=U bG;have GQ:=U gq;have IH:=U ih;have K:=U (Below.refl w.heap.size w);clear hr hq hW hu hj hd gq zk rA Nb Dv ih ht
  go_enter Tryz.func108,Tryz.ntmps108
  go_upto_region 0 with (fail);refine c6 ?_;refine d4 6 (jr (v:=.slice ua n uc) _ _ rfl rfl rfl) ?_;go_frame;have aF:CL (w.alloc (.cells #[.slice ua n uc] 27)) w.heap.size 0 (.slice ua n uc):=CL.mk (by rw [Rg.aL]; rfl) (by simp);have hb:=(Below.refl w.heap.size w).alloc (Nat.le_refl _) (.cells #[.slice ua n uc] 27);generalize w.alloc (.cells #[.slice ua n uc] 27)=w1 at *;replace A0:=U (A0.p.jj hb);replace A1:=U (A1.p.jj hb);replace A2:=U (A2.p.jj hb);replace CO:=U (CO.p.jj hb);replace NO:=U (NO.p.jj hb);replace K:=U (Rg.acc K.p hb);clear hb;have BX:=U aF;refine d6 7 (.bool false) ?_;go_frame;clear aF;go_upto_region 1 with (fail);refine c6 ?_;refine d5 15 (.int .i64 ((i:Nat):Int)) ?_;go_frame;refine d4 16 (ag _ rfl rfl (fF _ _)) ?_;go_frame;refine d4 17 (g9 (.int .i64 ((n:Nat):Int)) ⟨cb,0,none⟩ (ah A0.p.cell)) ?_;go_frame
  refine d4 18 (i3 (.bool false) .eql (h:=iN _ g7)) ?_;go_frame;have KB:=U (Below.refl w1.heap.size w1);have Lg:w.heap.size<w1.heap.size:=BX.p.lt;have JE:=U (vX (HU.p.kp (Rg.Kp.aC (M:=fun _=>False) K.p) (fun _ _=>id)));go_upto_region 3 with (fail);refine c6 ?_;refine d4 23 (ag _ rfl rfl (iZ _ _)) ?_;go_frame;refine d4 24 (g9 (.slice (some ⟨ob,oo,none⟩) n oc) ⟨cb,1,none⟩ (Rg.ae _ _ Tryz.underlying22 ((Below.cell (p:=⟨cb,1,none⟩) KB.p A1.p.lt).trans A1.p.cell))) ?_;go_frame;refine d5 25 (.int .i64 ((i:Nat):Int)) ?_;go_frame;refine d4 26 (aD ef _ _ rfl ob (oo) (n) oc (i) rfl rfl q9.p) ?_;go_frame;refine d4 27 (g9 (.slice ob2 os.length OM) ⟨ob,oo+i,none⟩ (Rg.ae _ _ Tryz.underlying26 ((Below.cell (p:=⟨ob,oo+i,none⟩) KB.p CO.p.lt).trans CO.p.cell))) ?_;go_frame
  refine f8 28 (aE 109 _ _ rfl rfl (WV _ _)) ?_;refine (FU _ (Ma.af os) w1 (NO.p.jj KB.p).i (by rw [Ma.az]; exact hop) (by rw [Ma.az]; omega)).mono ?_;rintro e1 w2 ⟨Wt,rfl,fM,hb⟩;have OW:=U fM;clear fM;refine ⟨_,rfl,?_⟩;go_frame;replace KB:=U (Rg.acc KB.p hb);clear hb;refine d6 8 (Wt) ?_;go_frame;go_upto_region 4 with (fail);refine c6 ?_;refine d5 29 (Wt) ?_;go_frame;refine d4 30 (eI _ _ rfl rfl) ?_;go_frame;refine f8 31 (aj 110 _ _ _ rfl rfl rfl (WW _ _)) ?_;refine (M8 GQ.p fL hN ((BX.p.jj KB.p).cell) Lg KB.p.size ((JE.p.kp (Rg.Kp.aC (M:=fun _=>False) KB.p) (fun _ _=>id)).mono fun z hz=>hz.2) Qp.p.lt ss hop OW.p).mono ?_;rintro e1 w3 ⟨lo,rfl,nh,Fs,WY,cE⟩;refine ⟨_,rfl,?_⟩;go_frame;replace KB:=U (Rg.Kp.jj KB.p cE (fun _ h=>h));clear cE
  clear OW;have Ay:lo.length=os.length:=nh.length_eq;have HPM:=U nh;have Po:=U (JA GQ.p (fun y hy=>Qp.p.lt y (nh.mem_iff.1 hy)) (nh.nodup_iff.2 Qp.p.nd) Fs);have TA:=U (hJ _ _ _ _ HJ.p (K.p.trans (KB.p.mono K.p.size)));have K3:=U (K.p.trans (KB.p.mono K.p.size));have HK3:=U K3.p.size
  have WK:=U ((HW.p.jj K3.p).mono (F':=fun z=>F z∨(w.heap.size<=z/\z<w3.heap.size)) (fun z hz=>.inl hz) (fun z hz=>by
   rcases hz with hz | hz
   ·have:=HW.p.lt z hz; have:=HK3.p; omega
   ·exact hz.2))
  have HU3:=U ((HU.p.kp (Rg.Kp.aC (M:=fun _=>False) K3.p) (fun _ _=>id)).mono (F':=fun z=>F z∨(w.heap.size<=z/\z<w3.heap.size)) (fun z hz=>.inl hz));have TB:=U ((vX WY).mono (F':=fun z=>F z∨(w.heap.size<=z/\z<w3.heap.size)) (fun z hz=>.inr ⟨Nat.le_trans (Nat.le_of_lt Lg) hz.1,hz.2⟩));have Qq:=U (BX.p.jj KB.p)
  have Nc:=U (show ∀ z,(F z∨(w.heap.size<=z/\z<w3.heap.size))->¬ C z from fun z hz hc=>by
   rcases hz with hz | hz
   ·exact HD.p z hz hc
   ·have:=hC _ _ _ HJ.p z hc; omega)
  obtain ⟨n9,va9,vc9,hn9,aah,-⟩:=WY.len;rw [Ma.az] at hn9;subst hn9 aah;clear nh Fs WY KB K A0 A1 A2 CO NO BX JE HW HU HJ HD;go_upto_region 5 with (fail);refine c6 ?_;refine d5 32 (.slice va9 lo.length vc9) ?_;go_frame;refine d4 33 (i4 Tryz.underlying26) ?_;go_frame;refine d5 34 (.int .i64 ((0:Nat):Int)) ?_;go_frame;have KQ:=U (show ∃ C':Nat->Prop,J (t+0*s) C' w3/\Rg.Kp C w3 w3/\∀ z,C' z->C z∨w3.heap.size<=z from ⟨C,by rw [Nat.zero_mul]; exact TA.p,Rg.Kp.refl _ _,fun z hz=>.inl hz⟩);clear TA;go_wp2
  go_loopw [34] (fun iv wr=>∃ d:Nat,iv=.int .i64 ((d:Nat):Int)/\d<=lo.length/\Hid (∃ C':Nat->Prop,J (t+d*s) C' wr/\Rg.Kp C w3 wr/\∀ z,C' z->C z∨w3.heap.size<=z)) (fun iv _=>lo.length - (intOf iv).toNat)
  case atStart=>exact ⟨0,rfl,Nat.zero_le _,KQ⟩
  case round =>
   clear KQ;obtain ⟨d,rfl,hdl,KQ⟩:=hrel;generalize wr=wA at *;obtain ⟨C1,E9,gJ,cF⟩:=KQ.p;have AP:=U E9;have vC:=U gJ;have AQ:=U cF;clear KQ E9 gJ cF
   by_cases aB:d<lo.length
   case neg =>
    obtain rfl:d=lo.length:=by omega
    have HX:=U (show Qk J Jx (t+cn O n (m+1)) C w (.returned (.bool true)) wA from .inl ⟨rfl,C1,by rw [yS.p,<- Ay]; exact AP.p,(Rg.Kp.aC (M:=C) K3.p).trans vC.p (fun _ _ h=>h),fun z hz=>by
     rcases AQ.p z hz with h1 | h1
     ·exact .inl h1
     ·exact .inr (Nat.le_trans HK3.p h1)⟩)
    clear AP vC AQ WK HU3 TB Qq Nc K3;go_upto_region 6 with (fail);refine c6 ?_;refine d4 35 (i3 (.bool false) .lss (h:=bj _ g7)) ?_;go_frame;go_upto_region 13 with (fail);refine c6 ?_;refine d6 7 (.bool true) ?_;go_frame;go_wp2;go_ret;exact HX.p
   case pos =>
    have zt:=U (WK.p.kp vC.p Nc.p);have tR:=HU3.p.kp vC.p Nc.p;have Vh:=TB.p.kp vC.p Nc.p;have HU4:=U tR
    obtain ⟨b9,o9,rfl,h91,h92⟩:∃ b o,va9=some ⟨b,o,none⟩/\b<wA.heap.size/\wA.cell? ⟨b,o+d,none⟩=some (.int .i64 ((lo[d]:Nat):Int)):=by
     obtain ⟨a,cap,e1,_,_,_,h5⟩:=Vh;obtain ⟨b,o,rfl,h6,_,h7⟩:=h5 (by rw [List.length_map,Ma.az]; omega);simp only [Value.slice.injEq] at e1;refine ⟨b,o,e1.1,h6,?_⟩;have:=h7 d (by rw [List.length_map,Ma.az]; exact aB);rw [List.getElem_map,Ma.pP] at this;exact this
    have CP:=U (CL.mk h92 h91);clear h91 h92 Vh;obtain ⟨Qr,hxe,WZ⟩:=Gn Qp.p HPM.p Po.p aB;obtain ⟨pt,hpt⟩:∃ x,Hid (lo[d]=x):=⟨_,U rfl⟩;obtain ⟨jx,hjx⟩:∃ x,Hid (os.idxOf pt=x):=⟨_,U rfl⟩;rw [hpt.p] at CP Qr hxe WZ;rw [hjx.p] at Qr hxe WZ;have HXJ:=U Qr;have HXP:=U WZ;have HPI:=U (show pt∈os from HPM.p.mem_iff.1 (hpt.p▸List.getElem_mem aB));have EZ:=U (show AL O R i q d=rl.getD jx [] by unfold AL; rw [ry.p,oP.p,HXP.p]);have TD:=U (zp cQ q9.p (k:=jx) (by rw [ry.p]; exact HXJ.p)).1;rw [oP.p] at TD;obtain ⟨ob9,oo9,kr,rb9,ro9,gR,e1,e2,⟨ob3,TE,zk,rA⟩,⟨va8,vc8,Nb,Dv⟩⟩:=mM cQ zt.p.ce q9.p;simp only [Value.slice.injEq,Option.some.injEq,Addr.mk.injEq,and_true,true_and] at e1 e2;obtain ⟨⟨rfl,rfl⟩,rfl⟩:=e1;obtain ⟨⟨rfl,rfl⟩,rfl⟩:=e2;rw [ry.p] at zk rA Nb Dv
    rw [oP.p] at Dv;obtain ⟨vb,vo,_,_,e1,cZ,cF,dg⟩:=jy Dv (i:=jx) (by rw [List.length_map,Fi.p]; exact Qr);subst e1
    have e5:(rl.map Ma.af)[jx]'(by rw [List.length_map,Fi.p]; exact Qr)=Ma.af (rl.getD jx []):=by rw [List.getElem_map,List.getD_eq_getElem?_getD,List.getElem?_eq_getElem]; rfl
    rw [e5] at cF dg;obtain ⟨y,hy⟩:∃ y,Hid (rl.getD jx []=y):=⟨_,U rfl⟩;rw [hy.p] at cF dg TD EZ;have GY:=U (hH.gd y TD.p.1);obtain ⟨ya,yc,gG,-⟩:=dg.shape
    rename_i va7 vc7
    have CO:=U zk;have NO:=U (dm.mk rA);have CR:=U Nb;have CY:=U (CL.mk cF cZ);have NY:=U (dm.mk dg);have NQ:=U (dm.mk HU4.p.ints);have A0:=U (show CL wA cb 0 (.int .i64 ((n:Nat):Int)) from CL.mk zt.p.c0 (zt.p.lt _ zt.p.fc));have A1:=U (show CL wA cb 1 (.slice (some ⟨ob,oo,none⟩) n oc) from CL.mk zt.p.c1 (zt.p.lt _ zt.p.fc));have A2:=U (show CL wA cb 2 (.slice (some ⟨rb,ro,none⟩) n rc) from CL.mk zt.p.c2 (zt.p.lt _ zt.p.fc));have AR:=U (show CL wA w.heap.size 0 (.slice ua n uc) from CL.mk ((qF vC.p Qq.p.lt (Nc.p _ (.inr ⟨Nat.le_refl _,Qq.p.lt⟩))).trans Qq.p.cell) (Nat.lt_of_lt_of_le Qq.p.lt vC.p.size));have KA:=U (Below.refl wA.heap.size wA);clear zk rA Nb Dv cZ cF dg e5 gG tR;go_upto_region 6 with (fail);refine c6 ?_;refine d4 35 (i3 (.bool true) .lss (h:=bj _ f9)) ?_;go_frame
    go_upto_region 7 with (fail);refine c6 ?_;refine d4 36 (aD cM _ _ rfl b9 (o9) (lo.length) vc9 (d) rfl rfl (by omega)) ?_;go_frame;refine d4 37 (g9 (.int .i64 ((pt:Nat):Int)) ⟨b9,o9+d,none⟩ (ah CP.p.cell)) ?_;go_frame;refine d6 10 (.int .i64 ((pt:Nat):Int)) ?_;go_frame;go_upto_region 8 with (fail);refine c6 ?_;refine d4 39 (ag _ rfl rfl (iZ _ _)) ?_;go_frame;refine d4 40 (g9 (.slice (some ⟨ob,oo,none⟩) n oc) ⟨cb,1,none⟩ (Rg.ae _ _ Tryz.underlying22 A1.p.cell)) ?_;go_frame;refine d5 41 (.int .i64 ((i:Nat):Int)) ?_;go_frame;refine d4 42 (aD ef _ _ rfl ob (oo) (n) oc (i) rfl rfl q9.p) ?_;go_frame;refine d4 43 (g9 (.slice ob3 os.length TE) ⟨ob,oo+i,none⟩ (Rg.ae _ _ Tryz.underlying26 CO.p.cell)) ?_;go_frame;refine d5 44 (.int .i64 ((pt:Nat):Int)) ?_;go_frame
    refine f8 45 (aj 112 _ _ _ rfl rfl rfl (Jg _ _)) ?_;refine (Py NO.p.i HAS.p (by have:=Aj.p; omega) HPI.p hjx).mono ?_;rintro e1 Nd ⟨rfl,hb⟩;refine ⟨_,rfl,?_⟩;go_frame;replace A0:=U (A0.p.jj hb);replace A1:=U (A1.p.jj hb);replace A2:=U (A2.p.jj hb);replace AR:=U (AR.p.jj hb);replace CO:=U (CO.p.jj hb);replace NO:=U (NO.p.jj hb);replace CR:=U (CR.p.jj hb);replace CY:=U (CY.p.jj hb);replace NY:=U (NY.p.jj hb);replace NQ:=U (NQ.p.jj hb);replace CP:=U (CP.p.jj hb);replace KA:=U (Rg.acc KA.p hb);clear hb;refine d5 38 (.tuple #[.int .i64 ((jx:Nat):Int),.bool true]) ?_;go_frame;refine d4 46 (i7 (.int .i64 ((jx:Nat):Int))) ?_;go_frame;refine d4 47 (i7 (.bool true)) ?_;go_frame;refine d6 11 (.int .i64 ((jx:Nat):Int)) ?_;go_frame;refine d6 12 (.bool true) ?_;go_frame
    go_upto_region 9 with (fail);have aw:Below Nd.heap.size Nd Nd.drew:=(Below.refl _ _).drew;replace A0:=U (A0.p.jj aw);replace A1:=U (A1.p.jj aw);replace A2:=U (A2.p.jj aw);replace AR:=U (AR.p.jj aw);replace CO:=U (CO.p.jj aw);replace NO:=U (NO.p.jj aw);replace CR:=U (CR.p.jj aw);replace CY:=U (CY.p.jj aw);replace NY:=U (NY.p.jj aw);replace NQ:=U (NQ.p.jj aw);replace CP:=U (CP.p.jj aw);replace KA:=U (Rg.acc KA.p aw);clear aw;refine Rg.Any.begin (S:=Rg.aI 14 (fun _=>True) (fun W=>Below Nd.drew.heap.size Nd.drew W)) mix ?_;generalize Nd.drew=Gp at *;have hS:∀ (l:Array Bool) W,Below Gp.heap.size Gp W->Rg.aI 14 (fun _=>True) (fun W=>Below Gp.heap.size Gp W) l W:=fun l W h=>⟨.inr trivial,h⟩;have hI:Below Gp.heap.size Gp Gp:=Below.refl _ _;refine d7 0 14 (.pointer (some ⟨cb,2,none⟩)) 49 rfl rfl (.inl ⟨rfl,fun w _=>ag _ rfl rfl (yA _ _)⟩) (hS _ _ hI) ?_;go_frame
    refine d7 1 14 (.slice (some ⟨rb,ro,none⟩) n rc) 50 rfl rfl (j0 ⟨cb,2,none⟩ (fun W hW=>Rg.ae _ _ Tryz.underlying23 ((Below.cell (p:=⟨cb,2,none⟩) hW A2.p.lt).trans A2.p.cell))) (hS _ _ hI) ?_;go_frame;refine d8 2 14 (.int .i64 ((i:Nat):Int)) 51 (hS _ _ hI) ?_;go_frame;refine d7 3 14 (.pointer (some ⟨rb,ro+i,none⟩)) 52 rfl rfl (Rg.aJ lO _ _ rfl rfl rb (ro) (n) rc (i) rfl rfl q9.p) (hS _ _ hI) ?_;go_frame;refine d7 4 14 (.slice (some ⟨vb,vo,none⟩) os.length vc8) 53 rfl rfl (j0 ⟨rb,ro+i,none⟩ (fun W hW=>Rg.ae _ _ Tryz.underlying41 ((Below.cell (p:=⟨rb,ro+i,none⟩) hW CR.p.lt).trans CR.p.cell))) (hS _ _ hI) ?_;go_frame;refine d8 5 14 (.int .i64 ((jx:Nat):Int)) 54 (hS _ _ hI) ?_;go_frame;refine d7 6 14 (.pointer (some ⟨vb,vo+jx,none⟩)) 55 rfl rfl (Rg.aJ cp _ _ rfl rfl vb (vo) (os.length) vc8 (jx) rfl rfl HXJ.p) (hS _ _ hI) ?_;go_frame
    refine d7 7 14 (.slice va7 (Ma.af y).length vc7) 56 rfl rfl (j0 ⟨vb,vo+jx,none⟩ (fun W hW=>Rg.ae _ _ Tryz.underlying27 ((Below.cell (p:=⟨vb,vo+jx,none⟩) hW CY.p.lt).trans CY.p.cell))) (hS _ _ hI) ?_;go_frame;refine d7 8 14 ((.slice ua n uc)) 57 rfl rfl (j0 ⟨w.heap.size,0,none⟩ (fun W hW=>Rg.ae _ _ Tryz.underlying27 ((Below.cell (p:=⟨w.heap.size,0,none⟩) hW AR.p.lt).trans AR.p.cell))) (hS _ _ hI) ?_;go_frame;refine Rg.Any.one (i:=9) (by kernel_rfl) (Rg.Any.ask (some 58) rfl rfl rfl _ _ (aj 113 _ _ _ rfl rfl rfl (WX _ _)) ?_);refine (ED _ _ y q Gp NY.p.i NQ.p.i GY.p.1 GQ.p.1 (by rw [GY.p.2,GQ.p.2]) (by rw [GY.p.2]; exact fL) (by rw [GY.p.2]; exact hN)).mono ?_;rintro e1 Qs ⟨mv,rfl,iO,hb⟩;have W5:=U ((BO iO).mono (F':=fun z=>wA.heap.size<=z) (fun z hz=>Nat.le_trans KA.p.size hz))
    have aS:=Rg.acc hI hb;clear hb hI;refine ⟨_,rfl,(hS _ _ aS),?_⟩;go_frame;have NM:=U (dm.mk iO.1);refine d8 10 14 (.tuple #[mv,.int .i64 0]) 48 (hS _ _ aS) ?_;go_frame;refine d7 11 14 (mv) 59 rfl rfl (.inl ⟨rfl,fun w _=>aV (v:=mv) _ _ rfl rfl rfl⟩) (hS _ _ aS) ?_;go_frame;refine d7 12 14 (.int .i64 0) 60 rfl rfl (.inl ⟨rfl,fun w _=>aV (v:=.int .i64 0) _ _ rfl rfl rfl⟩) (hS _ _ aS) ?_;go_frame;refine d7 13 14 (mv) 13 rfl rfl (.inl ⟨rfl,fun w _=>Rg.bw (v:=mv) _ rfl rfl⟩) (hS _ _ aS) ?_;go_frame;refine i9 14 14 rfl rfl (a8 (.int .i64 0) _ rfl rfl) (hS _ _ aS) ?_;go_frame;refine Rg.Any.done (by kernel_rfl) ?_ _;replace A0:=U (A0.p.jj aS);replace A1:=U (A1.p.jj aS);replace A2:=U (A2.p.jj aS);replace AR:=U (AR.p.jj aS);replace CO:=U (CO.p.jj aS);replace NO:=U (NO.p.jj aS)
    replace CR:=U (CR.p.jj aS);replace CY:=U (CY.p.jj aS);replace NY:=U (NY.p.jj aS);replace NQ:=U (NQ.p.jj aS);replace CP:=U (CP.p.jj aS);replace KA:=U (Rg.acc KA.p aS);clear hS aS;clear iO;have KC:=U (show Rg.Kp C1 wA Qs from Rg.Kp.aC KA.p);have Qt:=U (zt.p.jj KA.p);have W6:=U (hJ _ _ _ _ AP.p KA.p)
    have W7:=U (show ∀ z,(F z∨(w.heap.size<=z/\z<w3.heap.size))->¬ C1 z from fun z hz hc=>by
     rcases AQ.p z hc with h1 | h1
     ·exact Nc.p z hz h1
     ·have:=WK.p.lt z hz; omega)
    have W8:=U ((vX (W5.p)).mono (F':=fun z=>(F z∨(w.heap.size<=z/\z<w3.heap.size))∨(wA.heap.size<=z/\z<Qs.heap.size)) (fun z hz=>.inr hz))
    have W9:=U (Qt.p.mono (F':=fun z=>(F z∨(w.heap.size<=z/\z<w3.heap.size))∨(wA.heap.size<=z/\z<Qs.heap.size)) (fun z hz=>.inl hz) (fun z hz=>by
     rcases hz with hz | hz
     ·exact Qt.p.lt z hz
     ·exact hz.2))
    have W_:=U (show ∀ z,((F z∨(w.heap.size<=z/\z<w3.heap.size))∨(wA.heap.size<=z/\z<Qs.heap.size))->¬ C1 z from fun z hz hc=>by
     rcases hz with hz | hz
     ·exact W7.p z hz hc
     ·have:=hC _ _ _ AP.p z hc; omega)
    have hds:d*s+s<=cn O n (m+1):=by
     rw [yS.p,<- Ay]
     have:d*s+s=(d+1)*s:=by rw [Nat.succ_mul]
     rw [this];exact Nat.mul_le_mul_right s aB
    have ik:=IH.p (i+1) (t+d*s) (Ma.ar y q) mv _ C1 Qs (by have:=HI.p; omega) (by rw [hs.p]; have:=HT.p; omega) (fun r hr=>by
     rw [hs.p] at hr;rw [<- EZ.p,<- Qi (by rw [hs.p]; exact hr),hs.p,Nat.add_assoc]
     exact HR.p _ (by omega)) (hH.mul _ _ TD.p.1 HQ.p) W9.p W8.p W6.p W_.p
    rw [hs.p] at ik;have dY:=Qt.p.k;go_upto_region 10 with (fail);refine c6 ?_;refine d4 61 (g9 (.func (.func 108) #[] #[.pointer (some ⟨cb,0,none⟩),.pointer (some ⟨yb,0,none⟩),.pointer (some ⟨wb,0,none⟩)]) ⟨wb,0,none⟩ (jO Tryz.underlying154 dY)) ?_;go_frame;refine d5 62 (.int .i64 ((i:Nat):Int)) ?_;go_frame;refine d4 63 (i3 (.int .i64 ((i+1:Nat):Int)) .add (h:=cg _ (by omega) (by omega))) ?_;go_frame;refine d5 64 (mv) ?_;go_frame;refine f8 65 (zr 108 _ _ _ _ rfl rfl rfl rfl (Qo _ _)) ?_;refine ik.mono ?_
    rintro e8 w8 (⟨rfl,C8,TF,TG,TI⟩ | ⟨rfl,TJ⟩)
    ·refine ⟨_,rfl,?_⟩
     go_frame;refine d4 66 (bu _ _ true rfl rfl) ?_;go_frame
     have HX:=U (show ∃ C':Nat->Prop,J (t+(d+1)*s) C' w8/\Rg.Kp C w3 w8/\∀ z,C' z->C z∨w3.heap.size<=z from ⟨C8,by rw [Nat.succ_mul,<- Nat.add_assoc]; exact TF,(vC.p.trans (KC.p.trans TG (fun _ _ h=>h)) (fun k hk hc=>(AQ.p k hc).resolve_right (by omega))),fun z hz=>by
      rcases TI z hz with h1 | h1
      ·exact AQ.p z h1
      ·exact .inr (Nat.le_trans vC.p.size (Nat.le_trans KC.p.size h1))⟩)
     clear ik dY TF TG TI W9 Qt W8 W6 W7 W_ KC KA A0 A1 A2 AR CO NO CR CY NY NQ CP NM W5;go_wp2
     go_roundw
     case rel=>exact ⟨d+1,by go_num,aB,HX⟩
     case measure=>simp [intOf]; omega
    ·refine ⟨_,rfl,?_⟩
     go_frame;refine d4 66 (bu _ _ false rfl rfl) ?_;go_frame;have HX:=U (show Qk J Jx (t+cn O n (m+1)) C w (.returned (.bool false)) w8 from .inr ⟨rfl,TJ⟩);clear ik dY TJ W9 Qt W8 W6 W7 W_ KC KA A0 A1 A2 AR CO NO CR CY NY NQ CP NM W5;go_wp2;go_ret;exact HX.p

theorem Xa (args:Array Value) (w:World):(callFunc 114 args).run Tryz.prog w=.ok (.enter 114 args) w:=by kernel_rfl
theorem Gs {P:Program} {t:TypeId} {z:Value} {y:Nat} (hs:(P.info? t).map (fun i=>(i.zero,i.size,i.bytes))=some (some z,1,y)) {b o:Nat} {F:Fn} {x1 x2:Array Value} (h:w.cell? ⟨b,o,none⟩=some u) (hf:w.frozen? ⟨b,o,none⟩=false) :
  (storeVar t ⟨b,o,none⟩ (.func F x1 x2)).run P w=.ok () (w.setCell ⟨b,o,none⟩ (.func F x1 x2)):=by
 obtain ⟨i0,hi,cT,bz,dW⟩:=info_parts hs
 have h0:(⟨b,o,none⟩:Addr).add 0=⟨b,o,none⟩:=by simp [Addr.add]
 simp [storeVar,sizeOf,typeInfo,hi,bz,Value.cells,storeCells,store,h0];simp [Sem.run,h,hf]
theorem zu:(Tryz.prog.info? 154).map (fun i=>(i.zero,i.size,i.bytes))=some (some .nilFunc,1,8):=by kernel_rfl
theorem AU {o:Oper} {a:Act} (ho:o.op=.alloc 154):(execOp a.eval o).run Tryz.prog w=.ok (.value (.pointer (some ⟨w.heap.size,0,none⟩))) (w.alloc (.cells #[.nilFunc] 154)):=by
 obtain ⟨i0,hi,cT,bz,dW⟩:=info_parts zu;unfold execOp;simp only [ho]
 kernel_rfl
theorem xC {o:Oper} {a:Act} (F:FuncId) (x y z:Operand) (ho:o.op=.makeFunc (.func F) #[] #[x,y,z]) {t:Value} (hx:a.eval x=v) (hy:a.eval y=u) (hz:a.eval z=t):(execOp a.eval o).run Tryz.prog w=.ok (.value (.func (.func F) #[] #[v,u,t])) w:=by
 unfold execOp;simp [ho,hx,hy,hz,Instr.makeFunc]
theorem Gt (fL:1<=N) (hN:N<=64) (hH:cj N H) (cQ:ak N H O R) {cb l:Nat} {J:Nat->(Nat->Prop)->World->Prop} {Jx:World->Prop}
  (hY:WU l (gQ N O R) J Jx) (hJ:∀ t C W W',J t C W->Below W.heap.size W W'->J t C W') (hC:∀ t C W,J t C W->∀ z,C z->z<W.heap.size) {C:Nat->Prop} (fc:F cb) (h0:w.cell? ⟨cb,0,none⟩=some (.int .i64 ((N:Nat):Int))) (h1:w.cell? ⟨cb,1,none⟩=some ov) (h2:w.cell? ⟨cb,2,none⟩=some rv) (ho:Rg.aG F w ov (O.map Ma.af)) (hr:bg F w rv (R.map (List.map Ma.af))) (aB:∀ z,F z->z<w.heap.size) (hd:∀ z,F z->¬ C z) (hj:J 0 C w) :
  Calls Tryz.prog 107 #[.func (.yield l) #[] #[],.pointer (some ⟨cb,0,none⟩)] w fun e W'=>(∃ v,e=.returned v)/\((∃ C':Nat->Prop,J (gQ N O R).length C' W'/\Rg.Kp C w W'/\∀ z,C' z->C z∨w.heap.size<=z)∨Jx W'):=by
 have A0:=U (show CL w cb 0 (.int .i64 ((N:Nat):Int)) from CL.mk h0 (aB _ fc));have A1:=U (show CL w cb 1 ov from CL.mk h1 (aB _ fc));have A2:=U (show CL w cb 2 rv from CL.mk h2 (aB _ fc));have A00:=A0;have A10:=A1;have A20:=A2;have HO:=U ho;have HR:=U hr;have HL:=U aB;have HD:=U hd;have HJ:=U hj;have HF:=U fc;have HYY:=U hY;have K:=U (Below.refl w.heap.size w);clear h0 h1 h2 ho hr aB hd hj fc hY
 go_enter Tryz.func107,Tryz.ntmps107
 go_upto_region 0 with (fail);refine c6 ?_;refine d4 2 (jr (v:=.func (.yield l) #[] #[]) _ _ rfl rfl rfl) ?_;go_frame;have aF:CL (w.alloc (.cells #[.func (.yield l) #[] #[]] 118)) w.heap.size 0 (.func (.yield l) #[] #[]):=CL.mk (by rw [Rg.aL]; rfl) (by simp);have hb:=(Below.refl w.heap.size w).alloc (Nat.le_refl _) (.cells #[.func (.yield l) #[] #[]] 118);generalize w.alloc (.cells #[.func (.yield l) #[] #[]] 118)=w1 at *;replace A0:=U (A0.p.jj hb);replace A1:=U (A1.p.jj hb);replace A2:=U (A2.p.jj hb);replace K:=U (Rg.acc K.p hb);clear hb;have BY:=U aF;clear aF;have hw1:w.heap.size<w1.heap.size:=BY.p.lt;go_upto_region 1 with (fail);refine c6 ?_;refine d4 3 (AU rfl) ?_;go_frame;have aF:CW (w1.alloc (.cells #[.nilFunc] 154)) w1.heap.size .nilFunc:=⟨by rw [Rg.aL]; rfl,cA w1 _ _ 0 0,by simp⟩
 have hb:=(Below.refl w1.heap.size w1).alloc (Nat.le_refl _) (.cells #[.nilFunc] 154);generalize w1.alloc (.cells #[.nilFunc] 154)=w2 at *;replace A0:=U (A0.p.jj hb);replace A1:=U (A1.p.jj hb);replace A2:=U (A2.p.jj hb);replace BY:=U (BY.p.jj hb);replace K:=U (Rg.acc K.p hb);clear hb;have BW:=U aF;clear aF;go_upto_region 2 with (fail);refine c6 ?_;refine d4 6 (xC (v:=.pointer (some ⟨cb,0,none⟩)) (u:=.pointer (some ⟨w.heap.size,0,none⟩)) (t:=.pointer (some ⟨w1.heap.size,0,none⟩)) _ _ _ _ rfl rfl rfl rfl) ?_;go_frame;refine Rg.aA none rfl rfl (Rg.ai _ _ _ rfl _ rfl _ rfl (Gs zu BW.p.c BW.p.f)) ?_;go_frame;obtain ⟨W3,Nf⟩:∃ X,w2.setCell ⟨w1.heap.size,0,none⟩ (.func (.func 108) #[] #[.pointer (some ⟨cb,0,none⟩),.pointer (some ⟨w.heap.size,0,none⟩),.pointer (some ⟨w1.heap.size,0,none⟩)])=X:=⟨_,rfl⟩
 have Dx:Below w1.heap.size w2 W3:=by rw [<- Nf]; exact (Below.refl _ _).setCell (p:=⟨w1.heap.size,0,none⟩) (Nat.le_refl _) _
 have dY:W3.cell? ⟨w1.heap.size,0,none⟩=some (.func (.func 108) #[] #[.pointer (some ⟨cb,0,none⟩),.pointer (some ⟨w.heap.size,0,none⟩),.pointer (some ⟨w1.heap.size,0,none⟩)]):=by rw [<- Nf]; exact World.cell?_setCell_same _ _ _ BW.p.c
 have KB:=U (show Below w.heap.size w W3 from by rw [<- Nf]; exact K.p.setCell (p:=⟨w1.heap.size,0,none⟩) (Nat.le_of_lt hw1) _);have Qu:=U (show CL W3 w.heap.size 0 (.func (.yield l) #[] #[]) from CL.mk (by rw [<- Nf,World.cell?_setCell_other _ _ _ _ (by intro e; simp only [Addr.mk.injEq] at e; have:=BY.p.lt; have:=Dx.size; omega)]; exact BY.p.cell) (by have:=BY.p.lt; have:=Dx.size; omega));have ui:=U (show CL W3 w1.heap.size 0 (.func (.func 108) #[] #[.pointer (some ⟨cb,0,none⟩),.pointer (some ⟨w.heap.size,0,none⟩),.pointer (some ⟨w1.heap.size,0,none⟩)]) from CL.mk dY (by have:=BW.p.lt; have:=Dx.size; omega));have A0:=U (show CL W3 cb 0 (.int .i64 ((N:Nat):Int)) from (U A00.p).p.jj KB.p);have TA:=U (hJ _ _ _ _ HJ.p KB.p);have TB:=U (HO.p.kp (Rg.Kp.aC (M:=fun _=>False) KB.p) (fun _ _=>id));have P0:=U (HR.p.kp (Rg.Kp.aC (M:=fun _=>False) KB.p) (fun _ _=>id))
 have A1:=U (A10.p.jj KB.p);have A2:=U (A20.p.jj KB.p);rw [Nf];clear Nf dY Dx K BY BW;have DD:=U KB.p.size;go_upto_region 3 with (fail);refine c6 ?_;refine d4 8 (ag _ rfl rfl (fF _ _)) ?_;go_frame;refine d4 9 (g9 (.int .i64 ((N:Nat):Int)) ⟨cb,0,none⟩ (ah A0.p.cell)) ?_;go_frame;refine f8 10 (aE 114 _ _ rfl rfl (Xa _ _)) ?_;refine (Ey N W3 fL hN).mono ?_;rintro e1 w3 ⟨Ng,rfl,hov,hb⟩;have FIO:=U (vX (BO hov));refine ⟨_,rfl,?_⟩;go_frame;replace A0:=U (A0.p.jj hb);replace A1:=U (A1.p.jj hb);replace A2:=U (A2.p.jj hb);replace Qu:=U (Qu.p.jj hb);replace ui:=U (ui.p.jj hb);replace KB:=U (Rg.acc KB.p hb);clear hb;refine d5 7 (.tuple #[Ng,.int .i64 0]) ?_;go_frame;refine d4 11 (i7 (Ng)) ?_;go_frame;refine d4 12 (i7 (.int .i64 0)) ?_;go_frame
 refine d6 4 (Ng) ?_;go_frame;refine d6 5 (.int .i64 0) ?_;go_frame
 have Az:=U (show ∀ r,r<cn O N N->(gQ N O R).getD (0+r) []=qC N O R N 0 (Ma.bh N) r from fun r hr=>by
  unfold gQ;rw [Nat.zero_add,List.getD_eq_getElem?_getD,List.getElem?_map,List.getElem?_range hr]
  rfl)
 have hlen:(gQ N O R).length=cn O N N:=by unfold gQ; simp
 have WK:=U (show uu N O R (fun z=>F z∨(w.heap.size<=z/\z<w3.heap.size)) cb w.heap.size w1.heap.size l ov rv w3 from
  ⟨.inl HF.p,.inr ⟨Nat.le_refl _,Qu.p.lt⟩,.inr ⟨Nat.le_of_lt hw1,ui.p.lt⟩,A0.p.cell,A1.p.cell,A2.p.cell,Qu.p.cell,ui.p.cell,(HO.p.kp (Rg.Kp.aC (M:=fun _=>False) KB.p) (fun _ _=>id)).mono (fun _ h=>.inl h),(HR.p.kp (Rg.Kp.aC (M:=fun _=>False) KB.p) (fun _ _=>id)).mono (fun _ h=>.inl h),fun z hz=>by
   rcases hz with hz | hz
   ·have:=HL.p z hz; have:=KB.p.size; omega
   ·exact hz.2⟩)
 have HJ5:=U (hJ _ _ _ _ HJ.p KB.p);have nU:=U (FIO.p.mono (F':=fun z=>F z∨(w.heap.size<=z/\z<w3.heap.size)) (fun z hz=>.inr ⟨Nat.le_trans DD.p hz.1,hz.2⟩))
 have dI:=U (show ∀ z,(F z∨(w.heap.size<=z/\z<w3.heap.size))->¬ C z from fun z hz hc=>by
  rcases hz with hz | hz
  ·exact HD.p z hz hc
  ·have:=hC _ _ _ HJ.p z hc; omega)
 have ik:=JF fL hN hH cQ HYY.p hJ hC N 0 0 (Ma.bh N) Ng _ C w3 (Nat.zero_add _) (by rw [hlen,Nat.zero_add]; exact Nat.le_refl _) Az.p hH.one WK.p nU.p HJ5.p dI.p;rw [Nat.zero_add,<- hlen] at ik;have dY:=WK.p.k;go_upto_region 4 with (fail);refine c6 ?_;refine d4 13 (g9 (.func (.func 108) #[] #[.pointer (some ⟨cb,0,none⟩),.pointer (some ⟨w.heap.size,0,none⟩),.pointer (some ⟨w1.heap.size,0,none⟩)]) ⟨w1.heap.size,0,none⟩ (jO Tryz.underlying154 dY)) ?_;go_frame;refine d5 14 (Ng) ?_;go_frame;refine f8 15 (zr 108 _ _ _ _ rfl rfl rfl rfl (Qo _ _)) ?_;refine ik.mono ?_;rintro e8 w8 h8
 have HX:=U (show (∃ C':Nat->Prop,J (gQ N O R).length C' w8/\Rg.Kp C w w8/\∀ z,C' z->C z∨w.heap.size<=z)∨Jx w8 from by
  rcases h8 with ⟨_,C8,TF,TG,TI⟩ | ⟨_,TJ⟩
  ·exact .inl ⟨C8,TF,(Rg.Kp.aC (M:=C) KB.p).trans TG (fun _ _ h=>h),fun z hz=>(TI z hz).imp id (fun h1=>Nat.le_trans KB.p.size h1)⟩
  ·exact .inr TJ)
 obtain ⟨bv,rfl⟩:∃ bv,e8=.returned (.bool bv):=by rcases h8 with ⟨rfl,_⟩ | ⟨rfl,_⟩ <;> exact ⟨_,rfl⟩
 refine ⟨_,rfl,?_⟩;go_frame;clear ik dY h8 WK nU dI HJ5 Az TA TB P0 A0 A1 A2 A00 A10 A20 Qu ui FIO KB HYY HO HR HL HD HJ HF;go_wp2
 go_end0
 exact ⟨⟨_,rfl⟩,HX.p⟩
end Go.Proofs.YtpedbljnhnoohaaGreat
namespace Go.Proofs.RF
open Go Go.RowKit
def vY (fn:FuncId) (tmps:Array Value) (ps:Array Tmp) (assign body:Code) (D:Nat) (st:LoopState) (pe:Option Code):Loop :=
 { state:=st,pending:=pe,fn,tmps,params:=ps,assign,body,defers:=D }
def At (L:Nat) (r:Loop) (W:World):Prop:=W.heap[L]?=some (.loop r)
theorem At.put {r r':Loop} (h:At L r W):At L r' (W.putObj L (.loop r')) :=
 World.putObj_heap_same (Array.getElem?_eq_some_iff.1 h).1
theorem At.size {L:Nat} {r:Loop} {W:World} (h:At L r W):L<W.heap.size:=(Array.getElem?_eq_some_iff.1 h).1
theorem At.cell {L:Nat} {r r':Loop} {W:World} (h:At L r W) (a:Addr):(W.putObj L (.loop r')).cell? a=W.cell? a:=by
 unfold World.cell?
 by_cases e:a.block=L
 ·rw [e,World.putObj_heap_same h.size,show W.heap[L]?=_ from h]
 ·rw [World.putObj_heap_other e]
theorem At.frozen {L:Nat} {r r':Loop} {W:World} (h:At L r W) (a:Addr):(W.putObj L (.loop r')).frozen? a=W.frozen? a:=by
 unfold World.frozen?
 by_cases e:a.block=L
 ·rw [e,World.putObj_heap_same h.size,show W.heap[L]?=_ from h]
 ·rw [World.putObj_heap_other e]
theorem At.jj {r:Loop} (h:At L r W) (hB:B<=L) (o:Obj):Below B W (W.putObj L o) :=
 have _:=h
 ⟨rfl,rfl,rfl,by simp,fun k hk=>World.putObj_heap_other (by omega)⟩
theorem At.keep {r:Loop} (h:At L r W) (hk:W'.heap[L]?=W.heap[L]?):At L r W':=hk.trans h
theorem At.aC {r:Loop} (h:At L r W) (hb:Below B W W') (hL:L<B):At L r W':=(hb.block L hL).trans h
theorem At.oL {r:Loop} (h:At L r W) (hb:Below W.heap.size W W'):At L r W':=(hb.block L h.size).trans h
theorem At.alloc {L:Nat} {r:Loop} {W:World} (h:At L r W) (o:Obj):At L r (W.alloc o):=(Below.heap_alloc W o L h.size).trans h
theorem At.drew {L:Nat} {r:Loop} {W:World} (h:At L r W):At L r W.drew:=h
theorem At.setCell {L:Nat} {r:Loop} {W:World} (h:At L r W) (a:Addr) (v:Value):At L r (W.setCell a v) :=
 (KeepsOthers.setCell W a v).same L _ h rfl
theorem eP.put {r:Loop} (h:eP D W) (hl:At L r W) (o:Obj):eP D (W.putObj L o):=by
 have hne:D≠L:=by
  intro e; subst e;have:=(show W.heap[D]?=_ from h).symm.trans hl;simp at this
 exact (World.putObj_heap_other hne).trans h
theorem outer {P:Program} {g:Operand} {ps:Array Tmp} {assign body:Code} {Q:Exit->Act->World->Prop} {a:Act}
  {gf:Nat} {lb:Array Value} (hg:a.eval g=.func (.func gf) #[] lb) (eg:∀ args w,(callFunc gf args).run P w=.ok (.enter gf args) w)
  (h:∀ (fn:FuncId) (rec:LoopState->Option Code->Loop) (W1:World),rec=vY fn a.tmps ps assign body w.heap.size ->
   W1=(w.alloc (.deferred (some []))).alloc (.loop (rec .ready none)) ->
   At (w.heap.size+1) (rec .ready none) W1->eP w.heap.size W1->Below w.heap.size w W1 ->
   CallsIn Fence.wide (n - 1) P gf (#[.func (.yield (w.heap.size+1)) #[] #[]]++lb) W1 (fun e W2=>(∃ v,e=.returned v) /\
    ((At (w.heap.size+1) (rec .ready none) W2 /\
      Q .normal { a with defers:={ target:=.collected w.heap.size,args:=#[] } :: a.defers } (W2.putObj (w.heap.size+1) (.loop (rec .exhausted none)))) ∨
     (∃ c,At (w.heap.size+1) (rec .done (some c)) W2 /\
      c.wpIn Fence.wide n P Q { a with defers:={ target:=.collected w.heap.size,args:=#[] } :: a.defers } (W2.putObj (w.heap.size+1) (.loop (rec .exhausted (some c)))))))) :
  (Code.rangeFunc g ps assign body).wpIn Fence.wide n P Q a w:=by
 refine wpIn_rangeFunc ?_;intro fn _;have hro:Fence.wide.round=none:=rfl;rw [hro];obtain ⟨rec,ik⟩:∃ rec,rec=vY fn a.tmps ps assign body w.heap.size:=⟨_,rfl⟩;obtain ⟨W1,JG⟩:∃ W1,(w.alloc (.deferred (some []))).alloc (.loop (rec .ready none))=W1:=⟨_,rfl⟩
 have Qv:At (w.heap.size+1) (rec .ready none) W1:=by
  rw [<- JG]; have:=World.alloc_heap_new (w.alloc (.deferred (some []))) (.loop (rec .ready none)); rwa [World.size_alloc] at this
 have hK1:eP w.heap.size W1:=by
  rw [<- JG]; exact (Below.heap_alloc _ _ _ (by simp)).trans (World.alloc_heap_new w _)
 have cZ:Below w.heap.size w W1:=by
  rw [<- JG]; exact ((Below.refl _ w).alloc (Nat.le_refl _) _).alloc (by simp) _
 refine ⟨w.heap.size+1,[{ target:=.collected w.heap.size,args:=#[] }],W1,{ target:=.fn (.func gf) lb,args:=#[.func (.yield (w.heap.size+1)) #[] #[]] },W1,gf,
  #[.func (.yield (w.heap.size+1)) #[] #[]]++lb,W1,?_,?_,?_,?_,fun h=>by simp [Fence.wide] at h,?_⟩
 ·rw [<- JG,ik]; exact run_enterLoop_outer _ _ _ _ _
 ·simp only [resolve,hg]
  simp [go_sem]
 ·intro f' Xb; trivial
 ·simp [invoke,go_sem,eg]
 ·refine (h fn rec W1 ik JG.symm Qv hK1 cZ).mono ?_
  rintro e W2 ⟨⟨v,rfl⟩,(⟨hl,hq⟩ | ⟨c,hl,hq⟩)⟩
  ·exact ⟨none,_,by have:=run_endLoop (P:=P) hl (by rw [ik]; simp [vY]); rw [ik] at this; exact this,by rw [ik] at hq; exact hq⟩
  ·exact ⟨some c,_,by have:=run_endLoop (P:=P) hl (by rw [ik]; simp [vY]); rw [ik] at this; exact this,by rw [ik] at hq; exact hq⟩
def Nh (L:Nat) (rec:LoopState->Option Code->Loop) (R:Ending->World->Prop):Exit->Act->World->Prop
 | .normal,_,W=>At L (rec .busy none) W/\R (.returned (.bool true)) (W.putObj L (.loop (rec .ready none)))
 | .ret,_,W=>At L (rec .busy none) W/\R (.returned (.bool false)) (W.putObj L (.loop (rec .done (some .ret))))
 | .exit id,_,W=>At L (rec .busy none) W/\R (.returned (.bool false)) (W.putObj L (.loop (rec .done (some (.exit id)))))
 | .goto t,_,W=>At L (rec .busy none) W/\R (.returned (.bool false)) (W.putObj L (.loop (rec .done (some (.goto t)))))
 | .panic _,_,_=>False
 | .outgrown,_,_=>False
theorem round {P:Program} {fn:FuncId} {tmps:Array Value} {ps:Array Tmp} {assign body:Code} {args:Array Value} {R:Ending->World->Prop}
  {rec:LoopState->Option Code->Loop} (ik:rec=vY fn tmps ps assign body D)
  (hL:At L (rec .ready none) W) (hs:args.size=ps.size)
  (h:assign.wpIn (Fence.wide.inRound L) n P (Exit.then (fun nP Qw=>At L (rec .ready none) Qw /\
    body.wpIn (Fence.wide.inRound L) n P (Nh L rec R) nP (Qw.putObj L (.loop (rec .busy none)))) (fun _ _ _=>False))
   { tmps:=(ps.zip args).foldl (fun t (p,v)=>t.setIfInBounds p v) tmps,defers:=[] } W) :
  YieldAt Fence.wide n P L args W R:=by
 subst ik;refine ⟨fn,_,assign,body,run_yield hL hs,roundIn_of_wpIn trivial (wpIn_mono h ?_)⟩;rintro e nP Qw hq
 cases e with
 | normal =>
  obtain ⟨h1,h2⟩:=hq;refine ⟨_,run_beginRound h1 rfl,wpIn_mono h2 ?_⟩;rintro e aaP aaQ hp
  cases e with
  | normal=>exact ⟨_,_,run_endRound (P:=P) none hp.1,hp.2⟩
  | ret=>exact ⟨_,_,run_endRound (P:=P) (some .ret) hp.1,hp.2⟩
  | exit id=>exact ⟨_,_,run_endRound (P:=P) (some (.exit id)) hp.1,hp.2⟩
  | goto t=>exact ⟨_,_,run_endRound (P:=P) (some (.goto t)) hp.1,hp.2⟩
  | panic ch=>exact hp.elim
  | outgrown=>exact hp.elim
 | ret=>exact hq.elim
 | exit id=>exact hq.elim
 | goto t=>exact hq.elim
 | panic ch=>exact hq.elim
 | outgrown=>exact hq.elim
theorem Lh {P:Program} {g:Operand} {ps:Array Tmp} {assign body:Code} {Q:Exit->Act->World->Prop} {a:Act}
  {gf:Nat} {lb:Array Value} (hg:a.eval g=.func (.func gf) #[] lb) (eg:∀ args w,(callFunc gf args).run P w=.ok (.enter gf args) w)
  (h:∀ (fn:FuncId) (rec:LoopState->Option Code->Loop) (W1:World),rec=vY fn a.tmps ps assign body w.heap.size ->
   W1=(w.alloc (.deferred (some []))).alloc (.loop (rec .ready none)) ->
   At (w.heap.size+1) (rec .ready none) W1->eP w.heap.size W1->Below w.heap.size w W1 ->
   CallsIn Fence.wide 0 P gf (#[.func (.yield (w.heap.size+1)) #[] #[]]++lb) W1 (fun e W2=>(∃ v,e=.returned v) /\
    ((At (w.heap.size+1) (rec .ready none) W2 /\
      Q .normal { a with defers:=mark w.heap.size :: a.defers } (W2.putObj (w.heap.size+1) (.loop (rec .exhausted none)))) ∨
     (∃ c,At (w.heap.size+1) (rec .done (some c)) W2 /\
      c.wp P Q { a with defers:=mark w.heap.size :: a.defers } (W2.putObj (w.heap.size+1) (.loop (rec .exhausted (some c)))))))) :
  (Code.rangeFunc g ps assign body).wp P Q a w:=by
 refine wpIn_wide.1 (outer (n:=1) hg eg fun fn rec W1 h1 h2 h3 h4 h5=>(h fn rec W1 h1 h2 h3 h4 h5).mono ?_)
 rintro e W2 ⟨hv,(⟨hl,hq⟩ | ⟨c,hl,hq⟩)⟩
 ·exact ⟨hv,.inl ⟨hl,hq⟩⟩
 ·exact ⟨hv,.inr ⟨c,hl,wpIn_wide.2 hq⟩⟩
structure jP (W W':World):Prop where
 cell:∀ a,W'.cell? a=W.cell? a
 frozen:∀ a,W'.frozen? a=W.frozen? a
 size:W.heap.size<=W'.heap.size
 blk:∀ (g:Nat) (cur:Array Value) (e:TypeId) (fz:Nat × Nat),W.heap[g]?=some (.cells cur e fz)->W'.heap[g]?=some (.cells cur e fz)
theorem At.same {r r':Loop} (h:At L r W):jP W (W.putObj L (.loop r')) :=
 ⟨fun a=>h.cell a,fun a=>h.frozen a,by simp,fun g cur e fz hg=>by
  have hne:g≠L:=by
   intro e1; subst e1;have:=hg.symm.trans h;simp at this
  exact (World.putObj_heap_other (by omega)).trans hg⟩
theorem qY (o:Obj):Go.Proofs.Rg.Kp (fun z=>z=L) W (W.putObj L o):=⟨rfl,rfl,rfl,by simp,fun k _ hn=>World.putObj_heap_other (fun e=>hn e)⟩
end Go.Proofs.RF
namespace Go.Proofs.YtpedbljnhnoohaaGreat
open Go.RowKit
open Go.Proofs
section
open Go.Proofs.Ob
open Go.Proofs.Cm (Gd Gr ak ap lexLt cj St)
attribute [local irreducible] Go.Calls Go.wpList
theorem FI.same {l:List Int} (h:Rg.FI F W v l) (hs:RF.jP W W'):Rg.FI F W' v l:=eZ hs.cell hs.size h
def TL (I:Nat->(Nat->Prop)->World->Prop) (Ix:Code->World->Prop) (t:Nat) (C:Nat->Prop) (W:World):Exit->Act->World->Prop
 | .normal,_,W'=>∃ C':Nat->Prop,I (t+1) C' W'/\Rg.Kp C W W'/\∀ z,C' z->C z∨W.heap.size<=z
 | .ret,_,W'=>Ix .ret W'/\Rg.Kp C W W'
 | .exit id,_,W'=>Ix (.exit id) W'/\Rg.Kp C W W'
 | .goto g,_,W'=>Ix (.goto g) W'/\Rg.Kp C W W'
 | .panic _,_,_=>False
 | .outgrown,_,_=>False
theorem Xc:∀ (args:Array Value) (w:World),(callFunc 107 args).run Tryz.prog w=.ok (.enter 107 args) w:=fun _ _=>by kernel_rfl
theorem zw {C C':Nat->Prop} (h:Rg.Kp C W W') (hC:∀ z,C z->C' z):Rg.Kp C' W W':=h.kF hC
theorem zx {g:Operand} {ps:Array Go.Tmp} {assign body:Code} {Q:Exit->Act->World->Prop} {a:Act} (fL:1<=N) (hN:N<=64) (hH:cj N H) (cQ:ak N H O R) {cb:Nat}
  (hg:a.eval g=.func (.func 107) #[] #[.pointer (some ⟨cb,0,none⟩)]) (Fs:ps.size=1) {C0:Nat->Prop} (fc:F cb) (h0:w.cell? ⟨cb,0,none⟩=some (.int .i64 ((N:Nat):Int))) (h1:w.cell? ⟨cb,1,none⟩=some ov) (h2:w.cell? ⟨cb,2,none⟩=some rv) (ho:Rg.aG F w ov (O.map Ma.af)) (hr:bg F w rv (R.map (List.map Ma.af))) (aB:∀ z,F z->z<w.heap.size) (hd:∀ z,F z->¬ C0 z)
  (I:Nat->(Nat->Prop)->World->Prop) (Ix:Code->World->Prop) (hI:∀ t C W W',I t C W->Below W.heap.size W W'->I t C W') (Xd:∀ t C W W',I t C W->RF.jP W W'->I t C W') (TM:∀ c W W',Ix c W->RF.jP W W'->Ix c W')
  (Xe:∀ t C W,I t C W->∀ z,C z->z<W.heap.size/\z≠w.heap.size/\z≠w.heap.size+1) (oy:I 0 C0 w) (nP:Value->Act)
  (qm:∀ (n l:Nat) (x:Value) (W:World) (K:Act->World->Prop),K (nP x) W->assign.wpIn (Fence.wide.inRound l) n Tryz.prog (Exit.then K (fun _ _ _=>False)) { tmps:=(ps.zip #[x]).foldl (fun t (p,v)=>t.setIfInBounds p v) a.tmps,defers:=[] } W)
  (yK:∀ (n l t:Nat) (C:Nat->Prop) (x:Value) (W:World),I t C W->t<(gQ N O R).length->Rg.FI (fun z=>¬ C z) W x (Ma.af ((gQ N O R).getD t []))->w.heap.size+2<=W.heap.size->body.wpIn (Fence.wide.inRound l) n Tryz.prog (TL I Ix t C W) (nP x) W)
  (yL:∀ (C:Nat->Prop) (W:World),I (gQ N O R).length C W->RF.eP w.heap.size W->Rg.Kp C0 w W->Q .normal { a with defers:=RF.mark w.heap.size :: a.defers } W)
  (yM:∀ (c:Code) (W:World),Ix c W->RF.eP w.heap.size W->Rg.Kp C0 w W->c.wp Tryz.prog Q { a with defers:=RF.mark w.heap.size :: a.defers } W) :
  (Code.rangeFunc g ps assign body).wp Tryz.prog Q a w:=by
 refine RF.Lh hg Xc fun fn rec W1 ik JG hL hD hb=>callsIn_wide.2 ?_
 have eS:w.heap.size+2=W1.heap.size:=by rw [JG]; simp
 have Aa:I 0 C0 W1:=hI _ _ _ _ oy hb;have nS:Rg.Kp (fun _=>False) w W1:=Rg.Kp.aC hb
 refine (Gt (l:=w.heap.size+1) fL hN hH cQ
  (J:=fun t C W=>∃ C1:Nat->Prop,I t C1 W/\(∀ z,C z↔C1 z∨z=w.heap.size+1)/\RF.At (w.heap.size+1) (rec .ready none) W/\RF.eP w.heap.size W/\w.heap.size+2<=W.heap.size/\Rg.Kp C0 w W/\(∀ z,C1 z->C0 z∨w.heap.size<=z))
  (Jx:=fun W=>∃ c,Ix c W/\RF.At (w.heap.size+1) (rec .done (some c)) W/\RF.eP w.heap.size W/\Rg.Kp C0 w W)
  ?_ ?_ ?_ (F:=F) (C:=fun z=>C0 z∨z=w.heap.size+1) fc ((qF nS (aB _ fc) id).trans h0) ((qF nS (aB _ fc) id).trans h1) ((qF nS (aB _ fc) id).trans h2) (ho.kp nS (fun _ _=>id)) (hr.kp nS (fun _ _=>id)) (fun z hz=>by have:=aB z hz; omega) (fun z hz hc=>by
   rcases hc with hc | hc
   ·exact hd z hz hc
   ·have:=aB z hz; omega) ⟨C0,Aa,fun _=>Iff.rfl,hL,hD,by omega,zw nS (fun _ h=>False.elim h),fun z h=>.inl h⟩).mono ?_
 ·
  rintro m t C W uv ht ⟨C1,hi,AV,hl,hk,hs,tF,eJ⟩ hu;refine RF.round ik hl (by rw [Fs]; rfl) (qm m _ uv W _ ⟨hl,?_⟩);have eB:=hl.put (r':=rec .busy none);have Qx:=hl.same (r':=rec .busy none);have cU:RF.eP w.heap.size (W.putObj (w.heap.size+1) (.loop (rec .busy none))):=hk.put hl _;have jE:=Xd _ _ _ _ hi Qx;have F7:=FI.same (hu.mono (F':=fun z=>¬ C1 z) (fun z hz hc=>hz ((AV z).2 (.inl hc)))) Qx;refine wpIn_mono (yK m _ t C1 uv _ jE ht F7 (by simpa using hs)) ?_;have hLn:¬ C1 (w.heap.size+1):=fun hc=>(Xe _ _ _ hi _ hc).2.2 rfl;have hDn:¬ C1 w.heap.size:=fun hc=>(Xe _ _ _ hi _ hc).2.1 rfl
  have fin:∀ (W3:World),Rg.Kp C1 (W.putObj (w.heap.size+1) (.loop (rec .busy none))) W3->RF.At (w.heap.size+1) (rec .busy none) W3/\RF.eP w.heap.size W3:=fun W3 jB =>
   ⟨(jB.block _ eB.size hLn).trans eB,(jB.block _ cU.size hDn).trans cU⟩
  have sN:∀ (W3:World),Rg.Kp C1 (W.putObj (w.heap.size+1) (.loop (rec .busy none))) W3->∀ o,Rg.Kp C0 w (W3.putObj (w.heap.size+1) o):=fun W3 jB o =>
   ((tF.trans (RF.qY _) (fun z hz hc=>by omega)).trans jB (fun z hz hc=>(eJ z hc).resolve_right (by omega))).trans (RF.qY _) (fun z hz hc=>by omega)
  rintro e a3 W3 hp
  cases e with
  | normal =>
   obtain ⟨C',TN,jB,Ni⟩:=hp;obtain ⟨kh,xy⟩:=fin W3 jB;refine ⟨kh,.inl ⟨rfl,fun z=>C' z∨z=w.heap.size+1,⟨C',Xd _ _ _ _ TN kh.same,fun _=>Iff.rfl,kh.put,xy.put kh _,by have:=jB.size; simp at this ⊢; omega,sN W3 jB _,fun z hz=>(Ni z hz).elim (fun h=>eJ z h) (fun h=>.inr (by simp at h; omega))⟩,?_,fun z hz=>?_⟩⟩
   ·refine ((zw (RF.qY _) (fun z hz=>(AV z).2 (.inr hz))).trans (zw jB (fun z hz=>(AV z).2 (.inl hz))) (fun _ _ h=>h)).trans (zw (RF.qY _) (fun z hz=>(AV z).2 (.inr hz))) (fun _ _ h=>h)
   ·rcases hz with hz | hz
    ·rcases Ni z hz with h | h
     ·exact .inl ((AV z).2 (.inl h))
     ·exact .inr (by simpa using h)
    ·exact .inl ((AV z).2 (.inr hz))
  | ret =>
   obtain ⟨Qy,jB⟩:=hp;obtain ⟨kh,xy⟩:=fin W3 jB;exact ⟨kh,.inr ⟨rfl,.ret,TM _ _ _ Qy kh.same,kh.put,xy.put kh _,sN W3 jB _⟩⟩
  | exit id =>
   obtain ⟨Qy,jB⟩:=hp;obtain ⟨kh,xy⟩:=fin W3 jB;exact ⟨kh,.inr ⟨rfl,.exit id,TM _ _ _ Qy kh.same,kh.put,xy.put kh _,sN W3 jB _⟩⟩
  | goto id =>
   obtain ⟨Qy,jB⟩:=hp;obtain ⟨kh,xy⟩:=fin W3 jB;exact ⟨kh,.inr ⟨rfl,.goto id,TM _ _ _ Qy kh.same,kh.put,xy.put kh _,sN W3 jB _⟩⟩
  | panic ch=>exact hp.elim
  | outgrown=>exact hp.elim
 ·rintro t C W W' ⟨C1,hi,AV,hl,hk,hs,tF,eJ⟩ Qz
  exact ⟨C1,hI _ _ _ _ hi Qz,AV,hl.oL Qz,hk.oL Qz,Nat.le_trans hs Qz.size,tF.trans (Rg.Kp.aC Qz) (fun _ _ h=>False.elim h),eJ⟩
 ·rintro t C W ⟨C1,hi,AV,hl,_,hs,_⟩ z hz
  rcases (AV z).1 hz with h | h
  ·exact (Xe _ _ _ hi z h).1
  ·omega
 ·rintro e W2 ⟨hv,(⟨C',⟨C1,hi,_,hl,hk,_⟩,cE,_⟩ | ⟨c,hx,hl,hk,tF⟩)⟩
  ·refine ⟨hv,.inl ⟨hl,yL C1 _ (Xd _ _ _ _ hi hl.same) (hk.put hl _) ?_⟩⟩
   have sN:Rg.Kp C0 w W2:=(zw nS (fun _ h=>h.elim)).trans cE (fun z hz hc=>hc.resolve_right (by omega));exact sN.trans (RF.qY _) (fun z hz hc=>by omega)
  ·exact ⟨hv,.inr ⟨c,hl,yM c _ (TM _ _ _ hx hl.same) (hk.put hl _) (tF.trans (RF.qY _) (fun z hz hc=>by omega))⟩⟩

theorem Xf (args:Array Value) (w:World):(callFunc 137 args).run Tryz.prog w=.ok (.enter 137 args) w:=by kernel_rfl
theorem JH (n:Int) (ov rv:Value) (w:World) :
  Calls Tryz.prog 79 #[.agg #[.int .i64 n,ov,rv]] w fun e w'=>e=.returned (.func (.func 107) #[] #[.pointer (some ⟨w.heap.size,0,none⟩)])/\(CL w' w.heap.size 0 (.int .i64 n)/\CL w' w.heap.size 1 ov/\CL w' w.heap.size 2 rv)/\Below w.heap.size w w':=by
 go_enter Tryz.func79,Tryz.ntmps79
 have aF:=eY w (.int .i64 n) ov rv;go_upto_region 0 with (fail);refine c6 ?_;refine d4 1 (Rg.aY _ _ rfl rfl) ?_;go_frame;refine d6 2 (.nilFunc) ?_;go_frame;have hb:Below w.heap.size w (w.alloc (.cells #[.int .i64 n,ov,rv] 25)):=(Below.refl _ _).alloc (Nat.le_refl _) _;generalize w.alloc (.cells #[.int .i64 n,ov,rv] 25)=w1 at *;have H:=U aF;have K:=U hb;clear aF hb;go_wp2;go_ret;exact ⟨rfl,H.p,K.p⟩
theorem DE (hg:∀ s∈gs,Gd N s) (bW:1<=N) (cN:N<=12) (cQ:ak N (Cm.Gr N (·∈gs)) O R) (h:aW w ov rv (O.map Ma.af) (R.map (List.map Ma.af))) :
  Calls Tryz.prog 106 #[.agg #[.int .i64 ((N:Nat):Int),ov,rv]] w fun e w'=>e=.returned (.int .i64 (if cn O N N<=5040 then 0 else 5))/\Below w.heap.size w w':=by
 have CE:=U h;have K:=U (Below.refl w.heap.size w);obtain ⟨oa,oc,rfl,-⟩:=h.1.shape;obtain ⟨ra,rc,rfl⟩:=h.2.shape;obtain ⟨on,iz⟩:∃ n,Hid ((O.map Ma.af).length=n):=⟨_,U rfl⟩;obtain ⟨rn,iV⟩:∃ n,Hid ((R.map (List.map Ma.af)).length=n):=⟨_,U rfl⟩;rw [iz.p,iV.p] at CE;rw [iz.p,iV.p];obtain ⟨sz,eS⟩:∃ n,Hid (cn O N N=n):=⟨_,U rfl⟩;rw [eS.p];have HB:=U (show sz<=8916100448256 by rw [<- eS.p]; exact M9 cN (Gr.bV hg) cQ (Nat.le_refl _));have hsb:sz<=8916100448256:=HB.p;clear h
 go_enter Tryz.func106,Tryz.ntmps106
 go_upto_region 0 with (fail);refine c6 ?_;have aF:=eY w (.int .i64 ((N:Nat):Int)) (.slice oa on oc) (.slice ra rn rc);refine d4 1 (Rg.aY _ _ rfl rfl) ?_;go_frame;have hb:=(Below.refl w.heap.size w).alloc (Nat.le_refl _) (.cells #[.int .i64 ((N:Nat):Int),.slice oa on oc,.slice ra rn rc] 25);generalize w.alloc (.cells #[.int .i64 ((N:Nat):Int),.slice oa on oc,.slice ra rn rc] 25)=w1 at *;replace CE:=U (CE.p.jj hb);replace K:=U (Rg.acc K.p hb);clear hb;have A0:=U aF.1;have A1:=U aF.2.1;have A2:=U aF.2.2;clear aF;refine d6 2 (.int .i64 ((0:Nat):Int)) ?_;go_frame;go_upto_region 1 with (fail);refine c6 ?_;refine d4 6 (g9 ((.agg #[.int .i64 ((N:Nat):Int),.slice oa on oc,.slice ra rn rc])) ⟨w.heap.size,0,none⟩ (aq A0.p.cell A1.p.cell A2.p.cell)) ?_;go_frame;refine f8 7 (aE 137 _ _ rfl rfl (Xf _ _)) ?_
 refine (Gk hg bW cN cQ CE.p).mono ?_;rintro e1 w2 ⟨rfl,hb⟩;refine ⟨_,rfl,?_⟩;go_frame;replace CE:=U (CE.p.jj hb);replace A0:=U (A0.p.jj hb);replace A1:=U (A1.p.jj hb);replace A2:=U (A2.p.jj hb);replace K:=U (Rg.acc K.p hb);clear hb;refine d5 5 (.tuple #[.int .i64 ((cn O N N:Nat):Int),.int .i64 0]) ?_;go_frame;refine d4 8 (i7 (.int .i64 ((cn O N N:Nat):Int))) ?_;go_frame;refine d4 9 (i7 (.int .i64 0)) ?_;go_frame;refine d6 3 (.int .i64 ((cn O N N:Nat):Int)) ?_;go_frame;refine d6 4 (.int .i64 0) ?_;go_frame;rw [eS.p]
 by_cases h5:sz<=5040
 case pos =>
  skip
  go_upto_region 2 with (fail);refine c6 ?_;refine d5 10 (.int .i64 0) ?_;go_frame;refine d4 11 (i3 (.bool false) .neq (h:=aQ _ g7)) ?_;go_frame;refine d5 12 (.bool false) ?_;go_frame;refine d9 13 (a7 (.int .i64 ((sz:Nat):Int)) _ rfl rfl) ?_;go_frame;refine d9 14 (i3 (.bool false) .gtr (h:=fD _ g7)) ?_;go_frame;refine d4 15 (i5 (.bool false)) ?_;go_frame;go_upto_region 4 with (fail);refine c6 ?_;refine d6 2 (.int .i64 ((0:Nat):Int)) ?_;go_frame;go_wp2;go_ret;exact ⟨rfl,K.p⟩
 case neg =>
  skip
  go_upto_region 2 with (fail);refine c6 ?_;refine d5 10 (.int .i64 0) ?_;go_frame;refine d4 11 (i3 (.bool false) .neq (h:=aQ _ g7)) ?_;go_frame;refine d5 12 (.bool false) ?_;go_frame;refine d9 13 (a7 (.int .i64 ((sz:Nat):Int)) _ rfl rfl) ?_;go_frame;refine d9 14 (i3 (.bool true) .gtr (h:=fD _ f9)) ?_;go_frame;refine d4 15 (i5 (.bool true)) ?_;go_frame;go_upto_region 3 with (fail);refine c6 ?_;refine d6 2 (.int .i64 ((5:Nat):Int)) ?_;go_frame;go_wp2;go_ret;exact ⟨rfl,K.p⟩

theorem Xg (args:Array Value) (w:World):(callFunc 142 args).run Tryz.prog w=.ok (.enter 142 args) w:=by kernel_rfl
theorem Xh (args:Array Value) (w:World):(callFunc 203 args).run Tryz.prog w=.ok (.enter 203 args) w:=by kernel_rfl
theorem QA (args:Array Value) (w:World):(callFunc 143 args).run Tryz.prog w=.ok (.enter 143 args) w:=by kernel_rfl
def dz (x g:List Nat):List Nat:=Ma.ar (Ma.ar (Ma.aX g) x) g
theorem uw (fL:1<=N) (hN:N<=64) (v1 v2:Value) (x g:List Nat) (w:World) (h:Rg.NP w v1 x) (h':Rg.NP w v2 g) (gx:Gd N x) (gg:Gd N g) :
  Calls Tryz.prog 202 #[v1,v2] w fun e w'=>∃ v,e=.returned (.tuple #[v,.int .i64 0])/\Rg.rT w w' v (dz x g)/\Below w.heap.size w w':=by
 have NX:=U (dm.mk h);have NG:=U (dm.mk h');have hz:=U (Bg gx.1 gg.1 (by rw [gx.2]; exact fL) (by rw [gx.2]; exact hN) (gx.2.trans gg.2.symm));obtain ⟨xa,xc,rfl,_⟩:=h.shape;obtain ⟨ga,gc,rfl,_⟩:=h'.shape;have Xi:=U gx;have zy:=U gg;have k_:=Rg.Rows.two 27 h h';have HRW:=U k_;have K:=U (Below.refl w.heap.size w);clear h h' gx gg k_
 go_enter Tryz.func202,Tryz.ntmps202
 go_upto_region 0 with (fail);refine c6 ?_;refine d6 4 (.slice none 0 0) ?_;go_frame;refine d6 5 (.int .i64 ((0:Nat):Int)) ?_;go_frame;go_upto_region 1 with (fail);refine c6 ?_;refine d5 7 (.slice xa x.length xc) ?_;go_frame;refine d5 8 (.slice ga g.length gc) ?_;go_frame;refine d4 9 (tA (u1:=.slice xa x.length xc) (u2:=.slice ga g.length gc) _ _ rfl rfl rfl (tz w _ _ ⟨_,_,_,rfl⟩ ⟨_,_,_,rfl⟩)) ?_;go_frame;have hb:=(Below.refl w.heap.size w).alloc (Nat.le_refl _) (.cells #[.slice xa x.length xc,.slice ga g.length gc] 27);generalize w.alloc (.cells #[.slice xa x.length xc,.slice ga g.length gc] 27)=w1 at *;replace NX:=U (NX.p.jj hb);replace NG:=U (NG.p.jj hb);replace K:=U (Rg.acc K.p hb);clear hb;refine f8 10 (aE 142 _ _ rfl rfl (Xg _ _)) ?_;refine (Be HRW.p (Nat.le_succ 1) hz (Below.refl w1.heap.size w1)).mono ?_
 rintro e1 w2 ⟨rfl,hb⟩;refine ⟨_,rfl,?_⟩;go_frame;replace NX:=U (NX.p.jj hb);replace NG:=U (NG.p.jj hb);replace K:=U (Rg.acc K.p hb);clear hb;refine d6 6 (.int .i64 0) ?_;go_frame;clear HRW hz;go_upto_region 2 with (fail);refine c6 ?_;refine d5 11 (.int .i64 0) ?_;go_frame;refine d4 12 (i3 (.bool false) .neq (h:=aQ _ (decide_eq_false (by decide)))) ?_;go_frame;go_upto_region 4 with (fail);refine c6 ?_;refine d5 14 (.slice ga g.length gc) ?_;go_frame;refine f8 15 (aE 203 _ _ rfl rfl (Xh _ _)) ?_;refine (Cg _ g w2 NG.p.i zy.p.1 (by rw [zy.p.2]; omega) (by rw [zy.p.2]; exact fL)).mono ?_;rintro e1 w3 ⟨iv,rfl,lY,hb⟩;refine ⟨_,rfl,?_⟩;go_frame;replace NX:=U (NX.p.jj hb);replace NG:=U (NG.p.jj hb);replace K:=U (Rg.acc K.p hb);clear hb;have n8:=U (dm.mk lY.1);refine d5 16 (.slice xa x.length xc) ?_;go_frame
 refine f8 17 (aj 143 _ _ _ rfl rfl rfl (QA _ _)) ?_;refine (oD _ _ (Ma.aX g) x w3 n8.p.i NX.p.i (fun z hz=>by rw [Xi.p.2]; exact je (Cm.aH zy.p) hz) (by rw [Ma.cR,zy.p.2]; omega) (by rw [Ma.cR,zy.p.2]; exact fL) (by rw [Xi.p.2]; exact fL)).mono ?_;rintro e1 w4 ⟨mv,rfl,iO,hb⟩;refine ⟨_,rfl,?_⟩;go_frame;replace NX:=U (NX.p.jj hb);replace NG:=U (NG.p.jj hb);replace n8:=U (n8.p.jj hb);replace K:=U (Rg.acc K.p hb);clear hb;have xD:=U (dm.mk iO.1);refine d5 18 (.slice ga g.length gc) ?_;go_frame;refine f8 19 (aj 143 _ _ _ rfl rfl rfl (QA _ _)) ?_;refine (oD _ _ (Ma.ar (Ma.aX g) x) g w4 xD.p.i NG.p.i (fun z hz=>by rw [zy.p.2]; exact je (Cm.aT (Cm.aH zy.p) Xi.p) hz) (by rw [Ma.cI,Ma.cR,zy.p.2]; omega) (by rw [Ma.cI,Ma.cR,zy.p.2]; exact fL) (by rw [zy.p.2]; exact fL)).mono ?_
 rintro e1 w5 ⟨cv,rfl,hcv,hb⟩;have HFC:=U (hcv.2.mono K.p.size);refine ⟨_,rfl,?_⟩;go_frame;replace NX:=U (NX.p.jj hb);replace NG:=U (NG.p.jj hb);replace n8:=U (n8.p.jj hb);replace xD:=U (xD.p.jj hb);replace K:=U (Rg.acc K.p hb);clear hb;have QB:=U (dm.mk hcv.1);refine d6 4 (cv) ?_;go_frame;refine d6 5 (.int .i64 ((0:Nat):Int)) ?_;go_frame;clear lY iO hcv;go_wp2
 go_ret2
 exact ⟨_,rfl,⟨QB.p.i,HFC.p⟩,K.p⟩
theorem ux (hN:N<=64) (lv gv:Value) (s g:List Nat) (w:World) (h:Rg.Ints w lv (Ma.af s)) (hs:∀ y∈s,y<N) (hl:s.length<=100000) (h':Rg.NP w gv g) (gg:Gd N g) :
  Calls Tryz.prog 205 #[lv,gv] w fun e w'=>∃ v,e=.returned v/\eX w.heap.size w' v (Ma.af (s.map (ap g)))/\Below w.heap.size w w':=by
 obtain ⟨n,la,lc,hn,rfl,-⟩:=h.len;rw [Ma.az] at hn;subst hn;obtain ⟨n,ga,gc,hn,rfl,-⟩:=Rg.Ints.len h';rw [Ma.az,gg.2] at hn;subst hn;have NS:=U (dm.mk h);have NG:=U (dm.mk h');have HS:=U hs;have GG:=U gg;have K:=U (Below.refl w.heap.size w);clear h h' hs gg
 go_enter Tryz.func205,Tryz.ntmps205
 go_upto_region 0 with (fail);refine c6 ?_;refine d6 4 (.slice none 0 0) ?_;go_frame;go_upto_region 1 with (fail);refine c6 ?_;refine d6 5 (.slice none 0 0) ?_;go_frame;go_upto_region 2 with (fail);refine c6 ?_;refine d5 8 (.slice la s.length lc) ?_;go_frame;refine d4 9 (i4 Tryz.underlying26) ?_;go_frame;refine d5 10 (.int .i64 ((0:Nat):Int)) ?_;go_frame;have RO:=U (eX.nil w.heap.size w);go_wp2
 go_loopw [5,10] (fun ov iv wr=>∃ k:Nat,iv=.int .i64 ((k:Nat):Int)/\k<=s.length/\Hid (eX w.heap.size wr ov (Ma.af ((s.take k).map (ap g))))/\Hid (Below w.heap.size w wr)) (fun _ iv _=>s.length - (intOf iv).toNat)
 case atStart=>exact ⟨0,rfl,Nat.zero_le _,RO,K⟩
 case round =>
  clear RO;obtain ⟨k,rfl,hk,RO,KR⟩:=hrel;generalize wr=wA at *;replace NS:=U (NS.p.jj KR.p);replace NG:=U (NG.p.jj KR.p);obtain ⟨oa,oc,gG⟩:=RO.p.shape;rw [Ma.az,List.length_map,List.length_take,Nat.min_eq_left hk] at gG;subst gG
  by_cases aB:k<s.length
  case neg =>
   obtain rfl:k=s.length:=by omega
   go_upto_region 3 with (fail);refine c6 ?_;refine d4 11 (i3 (.bool false) .lss (h:=bj _ g7)) ?_;go_frame;go_upto_region 7 with (fail);refine c6 ?_;refine d5 22 (.slice oa s.length oc) ?_;go_frame;refine d6 4 (.slice oa s.length oc) ?_;go_frame;have HX:=U (show eX w.heap.size wA (.slice oa s.length oc) (Ma.af (s.map (ap g))) by have:=RO.p; rwa [List.take_length] at this);clear RO NS NG;go_wp2;go_ret;exact ⟨_,rfl,HX.p,KR.p⟩
  case pos =>
   have nS:k<100000:=by omega
   obtain ⟨lb,lo,_,e1,ud⟩:=NS.p.at (M:=s) rfl (by omega);simp only [Value.slice.injEq,true_and] at e1;obtain ⟨rfl,rfl⟩:=e1;obtain ⟨gb,DG,_,e1,yr⟩:=NG.p.at (M:=g) GG.p.2 (by have:=HS.p _ (List.getElem_mem aB); omega);simp only [Value.slice.injEq,true_and] at e1;obtain ⟨rfl,rfl⟩:=e1;obtain ⟨x,hx⟩:∃ x,Hid (s[k]=x):=⟨_,U rfl⟩;have AD:=U (show x<N from hx.p▸HS.p _ (List.getElem_mem aB))
   have CS:=U (show CL wA lb (lo+k) (.int .i64 ((x:Nat):Int)) by
    have:=ud k aB
    rwa [List.getD_eq_getElem?_getD,List.getElem?_eq_getElem aB,Option.getD_some,hx.p] at this)
   obtain ⟨y,hy⟩:∃ y,Hid (ap g x=y):=⟨_,U rfl⟩;have CG:=U (show CL wA gb (DG+x) (.int .i64 ((y:Nat):Int)) from hy.p▸yr x AD.p);clear ud yr;go_upto_region 3 with (fail);refine c6 ?_;refine d4 11 (i3 (.bool true) .lss (h:=bj _ f9)) ?_;go_frame;go_upto_region 4 with (fail);refine c6 ?_;refine d4 12 (aD cM _ _ rfl lb (lo) (s.length) lc (k) rfl rfl (by omega)) ?_;go_frame;refine d4 13 (g9 (.int .i64 ((x:Nat):Int)) ⟨lb,lo+k,none⟩ (ah CS.p.cell)) ?_;go_frame;refine d6 7 (.int .i64 ((x:Nat):Int)) ?_;go_frame;have qG:=U (show (Ma.af ((s.take k).map (ap g))).length=k by rw [Ma.az,List.length_map,List.length_take,Nat.min_eq_left hk]);go_upto_region 5 with (fail);refine c6 ?_;refine d5 14 (.slice oa k oc) ?_;go_frame;refine d5 15 (.slice (some ⟨gb,DG,none⟩) N gc) ?_;go_frame;refine d5 16 (.int .i64 ((x:Nat):Int)) ?_;go_frame
   refine d4 17 (aD cw _ _ rfl gb (DG) (N) gc (x) rfl rfl AD.p) ?_;go_frame;refine d4 18 (g9 (.int .i64 ((y:Nat):Int)) ⟨gb,DG+x,none⟩ (ah CG.p.cell)) ?_;go_frame;refine d4 19 (Rg.aN _ _ _ rfl (.int .i64 ((y:Nat):Int)) rfl (lK wA _)) ?_;go_frame;obtain ⟨a9,c9,X9,r1,r2,r3⟩:=RO.p.push KR.p.size ((y:Nat):Int) (by rw [qG.p]; omega) 26;rw [qG.p] at r1 r2;refine d4 20 (Rg.bF _ _ _ rfl rfl rfl r1) ?_;go_frame;refine d6 5 (.slice a9 (k+1) c9) ?_;go_frame
   have yC:=U (show eX w.heap.size X9 (.slice a9 (k+1) c9) (Ma.af ((s.take (k+1)).map (ap g))) by
    rw [List.take_succ_eq_append_getElem aB,hx.p,List.map_append,List.map_singleton,hy.p];unfold Ma.af;rw [List.map_append]
    exact r2)
   have KX:=U (r3 (Nat.le_refl _) KR.p);clear r1 r2 r3 RO KR NS NG CS CG qG;go_wp2
   go_roundw
   case rel=>exact ⟨k+1,by go_num,aB,yC,KX⟩
   case measure=>simp [intOf]; omega

theorem QC (args:Array Value) (w:World):(callFunc 202 args).run Tryz.prog w=.ok (.enter 202 args) w:=by kernel_rfl
theorem JI (args:Array Value) (w:World):(callFunc 205 args).run Tryz.prog w=.ok (.enter 205 args) w:=by kernel_rfl
theorem aai (b:Nat) (w:World):(Instr.fieldAt 76 (.pointer (some ⟨b,0,none⟩)) 0).run Tryz.prog w=.ok (.pointer (some ⟨b,0,none⟩)) w:=by kernel_rfl
theorem aaj (b:Nat) (w:World):(Instr.fieldAt 76 (.pointer (some ⟨b,0,none⟩)) 1).run Tryz.prog w=.ok (.pointer (some ⟨b,1,none⟩)) w:=by kernel_rfl
theorem Vi (b:Nat) (w:World):(Instr.fieldAt 83 (.pointer (some ⟨b,0,none⟩)) 0).run Tryz.prog w=.ok (.pointer (some ⟨b,0,none⟩)) w:=by kernel_rfl
theorem Vj (b:Nat) (w:World):(Instr.fieldAt 83 (.pointer (some ⟨b,0,none⟩)) 1).run Tryz.prog w=.ok (.pointer (some ⟨b,1,none⟩)) w:=by kernel_rfl
theorem aak (b:Nat) (w:World):(Instr.fieldAt 86 (.pointer (some ⟨b,0,none⟩)) 0).run Tryz.prog w=.ok (.pointer (some ⟨b,0,none⟩)) w:=by kernel_rfl
theorem aal (b:Nat) (w:World):(Instr.fieldAt 86 (.pointer (some ⟨b,0,none⟩)) 1).run Tryz.prog w=.ok (.pointer (some ⟨b,1,none⟩)) w:=by kernel_rfl
theorem aam (b:Nat) (w:World):(Instr.fieldAt 99 (.pointer (some ⟨b,0,none⟩)) 0).run Tryz.prog w=.ok (.pointer (some ⟨b,0,none⟩)) w:=by kernel_rfl
theorem aan (b:Nat) (w:World):(Instr.fieldAt 99 (.pointer (some ⟨b,0,none⟩)) 1).run Tryz.prog w=.ok (.pointer (some ⟨b,1,none⟩)) w:=by kernel_rfl
structure ThU (N:Nat) (tv:Value) (Pb:List Nat->Bool) (Fk:Nat->Prop) (A:World->Prop):Prop where
 m : ∃ F recv, (∀ gv W, (callMethod tv "cayley/search.maps" #[gv]).run Tryz.prog W = .ok (.enter F #[recv, gv]) W) /\
  ∀ W gv g,A W->Rg.NP W gv g->Gd N g->Calls Tryz.prog F #[recv,gv] W fun e W'=>e=.returned (.bool (Pb g))/\Below W.heap.size W W'
 same:∀ W W',A W->RF.jP W W'->A W'
 kp:∀ C W W',A W->Rg.Kp C W W'->(∀ z,Fk z->¬ C z)->A W'
theorem JJ (w:World) (x y:Value) (t:TypeId):CL (w.alloc (.cells #[x,y] t)) w.heap.size 0 x/\CL (w.alloc (.cells #[x,y] t)) w.heap.size 1 y :=
 ⟨CL.mk (by rw [Rg.aL]; rfl) (by simp),CL.mk (by rw [Rg.aL]; rfl) (by simp)⟩
theorem Gu (fL:1<=N) (hN:N<=64) (xv yv gv:Value) (x y g:List Nat) (w:World) (hx:Rg.NP w xv x) (hy:Rg.NP w yv y) (hg:Rg.NP w gv g) (gx:Gd N x) (gg:Gd N g) :
  Calls Tryz.prog 201 #[.agg #[xv,yv],gv] w fun e w'=>e=.returned (.bool (decide (dz x g=y)))/\Below w.heap.size w w':=by
 obtain ⟨n,xa,xc,hn,rfl,-⟩:=Rg.Ints.len hx;rw [Ma.az,gx.2] at hn;subst hn;obtain ⟨n,ya,yc,hn,rfl,-⟩:=Rg.Ints.len hy;rw [Ma.az] at hn;subst hn;obtain ⟨n,ga,gc,hn,rfl,-⟩:=Rg.Ints.len hg;rw [Ma.az,gg.2] at hn;subst hn;have NX:=U (dm.mk hx);have NY:=U (dm.mk hy);have NG:=U (dm.mk hg);have GX:=U gx;have GG:=U gg;have K:=U (Below.refl w.heap.size w);clear hx hy hg gx gg
 go_enter Tryz.func201,Tryz.ntmps201
 go_upto_region 0 with (fail);refine c6 ?_;have aF:=JJ w (.slice xa N xc) (.slice ya y.length yc) 76;refine d4 2 (Rg.aY _ _ rfl rfl) ?_;go_frame;have hb:=(Below.refl w.heap.size w).alloc (Nat.le_refl _) (.cells #[.slice xa N xc,.slice ya y.length yc] 76);generalize w.alloc (.cells #[.slice xa N xc,.slice ya y.length yc] 76)=w1 at *;replace NX:=U (NX.p.jj hb);replace NY:=U (NY.p.jj hb);replace NG:=U (NG.p.jj hb);replace K:=U (Rg.acc K.p hb);clear hb;have B0:=U aF.1;have B1:=U aF.2;clear aF;refine d6 4 (.bool false) ?_;go_frame;go_upto_region 1 with (fail);refine c6 ?_;refine d4 8 (ag _ rfl rfl (aai _ _)) ?_;go_frame;refine d4 9 (g9 (.slice xa N xc) ⟨w.heap.size,0,none⟩ (Rg.ae _ _ Tryz.underlying27 B0.p.cell)) ?_;go_frame;refine d5 10 (.slice ga N gc) ?_;go_frame;refine f8 11 (aj 202 _ _ _ rfl rfl rfl (QC _ _)) ?_
 refine (uw fL hN _ _ x g w1 NX.p.i NG.p.i GX.p GG.p).mono ?_;rintro e1 w2 ⟨cv,rfl,hcv,hb⟩;refine ⟨_,rfl,?_⟩;go_frame;replace NX:=U (NX.p.jj hb);replace NY:=U (NY.p.jj hb);replace NG:=U (NG.p.jj hb);replace B0:=U (B0.p.jj hb);replace B1:=U (B1.p.jj hb);replace K:=U (Rg.acc K.p hb);clear hb;have NC:=U (dm.mk hcv.1);refine d5 7 (.tuple #[cv,.int .i64 0]) ?_;go_frame;refine d4 12 (i7 (cv)) ?_;go_frame;refine d4 13 (i7 (.int .i64 0)) ?_;go_frame;refine d6 5 (cv) ?_;go_frame;refine d6 6 (.int .i64 0) ?_;go_frame;clear hcv;go_upto_region 2 with (fail);refine c6 ?_;refine d5 14 (cv) ?_;go_frame;refine d4 15 (ag _ rfl rfl (aaj _ _)) ?_;go_frame;refine d4 16 (g9 (.slice ya y.length yc) ⟨w.heap.size,1,none⟩ (Rg.ae _ _ Tryz.underlying27 B1.p.cell)) ?_;go_frame;refine f8 17 (aj 131 _ _ _ rfl rfl rfl (Pf _ _)) ?_
 refine (tQ _ _ (Ma.af (dz x g)) (Ma.af y) w2 NC.p.i NY.p.i).mono ?_;rintro e1 w3 ⟨rfl,hb⟩;refine ⟨_,rfl,?_⟩;go_frame;replace NX:=U (NX.p.jj hb);replace NY:=U (NY.p.jj hb);replace NG:=U (NG.p.jj hb);replace B0:=U (B0.p.jj hb);replace B1:=U (B1.p.jj hb);replace NC:=U (NC.p.jj hb);replace K:=U (Rg.acc K.p hb);clear hb;refine d4 4 (Rg.bw (v:=(.bool (decide (Ma.af (dz x g)=Ma.af y)))) _ rfl rfl) ?_;go_frame
 have HE:=U (show decide (Ma.af (dz x g)=Ma.af y)=decide (dz x g=y) by
  by_cases e:dz x g=y
  ·rw [e]; simp
  ·rw [decide_eq_false e,decide_eq_false (fun e2=>e (Ma.nE e2))])
 rw [HE.p];clear HE;go_wp2;go_ret;exact ⟨rfl,K.p⟩
theorem Gv (hN:N<=64) (sv tv gv:Value) (s t g:List Nat) (w:World) (hs:Rg.NP w sv s) (ht:Rg.NP w tv t) (hg:Rg.NP w gv g) (iF:∀ y∈s,y<N) (hl:s.length<=100000) (gg:Gd N g) :
  Calls Tryz.prog 206 #[.agg #[sv,tv],gv] w fun e w'=>e=.returned (.bool (decide (s.map (ap g)=t)))/\Below w.heap.size w w':=by
 obtain ⟨n,xa,xc,hn,rfl,-⟩:=Rg.Ints.len hs;obtain ⟨n2,ya,yc,cN,rfl,-⟩:=Rg.Ints.len ht;obtain ⟨n3,ga,gc,Gw,rfl,-⟩:=Rg.Ints.len hg;have NX:=U (dm.mk hs);have NY:=U (dm.mk ht);have NG:=U (dm.mk hg);have HL:=U hl;have GG:=U gg;have K:=U (Below.refl w.heap.size w);clear hs ht hg gg hn cN Gw hl
 go_enter Tryz.func206,Tryz.ntmps206
 go_upto_region 0 with (fail);refine c6 ?_;have aF:=JJ w (.slice xa n xc) (.slice ya n2 yc) 86;refine d4 2 (Rg.aY _ _ rfl rfl) ?_;go_frame;have hb:=(Below.refl w.heap.size w).alloc (Nat.le_refl _) (.cells #[.slice xa n xc,.slice ya n2 yc] 86);generalize w.alloc (.cells #[.slice xa n xc,.slice ya n2 yc] 86)=w1 at *;replace NX:=U (NX.p.jj hb);replace NY:=U (NY.p.jj hb);replace NG:=U (NG.p.jj hb);replace K:=U (Rg.acc K.p hb);clear hb;have B0:=U aF.1;have B1:=U aF.2;clear aF;refine d6 4 (.bool false) ?_;go_frame;go_upto_region 1 with (fail);have aw:Below w1.heap.size w1 w1.drew:=(Below.refl _ _).drew;replace NX:=U (NX.p.jj aw);replace NY:=U (NY.p.jj aw);replace NG:=U (NG.p.jj aw);replace B0:=U (B0.p.jj aw);replace B1:=U (B1.p.jj aw);replace K:=U (Rg.acc K.p aw);clear aw;refine Rg.Any.begin (S:=Rg.aI 7 (fun _=>True) (fun W=>Below w1.drew.heap.size w1.drew W)) mix ?_
 generalize w1.drew=w2 at *;have hS:∀ (l:Array Bool) W,Below w2.heap.size w2 W->Rg.aI 7 (fun _=>True) (fun W=>Below w2.heap.size w2 W) l W:=fun l W h=>⟨.inr trivial,h⟩;have hI:Below w2.heap.size w2 w2:=Below.refl _ _;refine d7 0 7 (.pointer (some ⟨w.heap.size,0,none⟩)) 5 rfl rfl (.inl ⟨rfl,fun w _=>ag _ rfl rfl (aak _ _)⟩) (hS _ _ hI) ?_;go_frame;refine d7 1 7 (.slice xa n xc) 6 rfl rfl (j0 ⟨w.heap.size,0,none⟩ (fun W hW=>Rg.ae _ _ Tryz.underlying26 ((Below.cell (p:=⟨w.heap.size,0,none⟩) hW B0.p.lt).trans B0.p.cell))) (hS _ _ hI) ?_;go_frame;refine d8 2 7 (.slice ga n3 gc) 7 (hS _ _ hI) ?_;go_frame;refine d7 4 7 (.pointer (some ⟨w.heap.size,1,none⟩)) 9 rfl rfl (.inl ⟨rfl,fun w _=>ag _ rfl rfl (aal _ _)⟩) (hS _ _ hI) ?_;go_frame;refine d7 5 7 (.slice ya n2 yc) 10 rfl rfl (j0 ⟨w.heap.size,1,none⟩ (fun W hW=>Rg.ae _ _ Tryz.underlying26 ((Below.cell (p:=⟨w.heap.size,1,none⟩) hW B1.p.lt).trans B1.p.cell))) (hS _ _ hI) ?_;go_frame
 refine Rg.Any.one (i:=3) (by kernel_rfl) (Rg.Any.ask (some 8) rfl rfl rfl _ _ (aj 205 _ _ _ rfl rfl rfl (JI _ _)) ?_);refine (ux hN _ _ s g w2 NX.p.i iF HL.p NG.p.i GG.p).mono ?_;rintro e1 w3 ⟨iv,rfl,lY,hb⟩;have bG:=lY.fi (by rw [Ma.az,List.length_map]; have:=HL.p; omega) (G:=fun _=>True) (fun _ _ _=>trivial);have aS:=Rg.acc hI hb;clear hb hI;refine ⟨_,rfl,(hS _ _ aS),?_⟩;go_frame;have NM:=U (dm.mk bG.ints);refine Rg.Any.one (i:=6) (by kernel_rfl) (Rg.Any.ask (some 11) rfl rfl rfl _ _ (aj 126 _ _ _ rfl rfl rfl (De _ _)) ?_);refine (mK _ _ (Ma.af (s.map (ap g))) (Ma.af t) w3 NM.p.i (NY.p.jj aS).i).mono ?_;rintro e1 w4 ⟨rfl,hb⟩;have bf:=Rg.acc aS hb;have bZ:=hb;clear hb aS;refine ⟨_,rfl,(hS _ _ bf),?_⟩;go_frame;refine Rg.Any.one (i:=7) (by kernel_rfl) (Rg.Any.run (some 4) rfl rfl rfl (Rg.bw (v:=(.bool (decide (Ma.af (s.map (ap g))=Ma.af t)))) _ rfl rfl) (hS _ _ bf) ?_)
 go_frame;refine Rg.Any.done (by kernel_rfl) ?_ _;replace NX:=U (NX.p.jj bf);replace NY:=U (NY.p.jj bf);replace NG:=U (NG.p.jj bf);replace B0:=U (B0.p.jj bf);replace B1:=U (B1.p.jj bf);replace NM:=U (NM.p.jj bZ);replace K:=U (Rg.acc K.p bf);clear hS bf bZ
 have HE:=U (show decide (Ma.af (s.map (ap g))=Ma.af t)=decide (s.map (ap g)=t) by
  by_cases e:s.map (ap g)=t
  ·rw [e]; simp
  ·rw [decide_eq_false e,decide_eq_false (fun e2=>e (Ma.nE e2))])
 rw [HE.p];clear HE;go_wp2;go_ret;exact ⟨rfl,K.p⟩
end
section
attribute [local irreducible] Go.Calls
theorem Nj (a:Option Addr) (c:Nat) (w:World):Calls Tryz.prog 167 #[.slice a 0 c,.int .i64 0,.int .i64 0] w fun e w'=>e=.returned (.tuple #[])/\w'=w:=by
 go_enter Tryz.func167,Tryz.ntmps167
 go_wp2
 go_loopw [6] (fun iv wr=>iv=.int .i64 1/\wr=w) (fun _ _=>0)
 case atStart=>exact ⟨rfl,rfl⟩
 case round =>
  obtain ⟨rfl,rfl⟩:=hrel;go_wp2
  go_end0
  exact ⟨rfl,rfl⟩
theorem Nk (a:Option Addr) (c:Nat) (k:Int) (w:World):Calls Tryz.prog 150 #[.slice a 0 c,.int .i64 0,.int .i64 0,.int .i64 k] w fun e w'=>e=.returned (.tuple #[])/\w'=w:=by
 go_enter Tryz.func150,Tryz.ntmps150
 go_wp2
 go_loopw [1,2] (fun x y wr=>x=.int .i64 0/\y=.int .i64 0/\wr=w) (fun _ _ _=>0)
 case atStart=>exact ⟨rfl,rfl,rfl⟩
 case round =>
  obtain ⟨rfl,rfl,rfl⟩:=hrel
  go_wp2_with (go_at_call 167; refine (Nj a c _).mono ?_; rintro e w' ⟨rfl,rfl⟩)
  refine bodyPost_ret (results_none rfl _ _ _) rfl ?_;exact ⟨rfl,rfl⟩
theorem Gy (w:World):Calls Tryz.prog 161 #[.int .u64 0] w fun e w'=>(∃ k,e=.returned (.int .i64 k))/\w'=w:=by
 go_enter Tryz.func161,Tryz.ntmps161
 go_wp2;go_ret;exact ⟨⟨_,rfl⟩,rfl⟩
theorem Nl (w:World):Calls Tryz.prog 139 #[.int .u64 0] w fun e w'=>(∃ k,e=.returned (.int .i64 k))/\w'=w:=by
 go_enter Tryz.func139,Tryz.ntmps139
 go_wp2_with (go_at_call 161; refine (Gy _).mono ?_; rintro e w' ⟨⟨k,rfl⟩,rfl⟩)
 go_ret;exact ⟨⟨_,rfl⟩,rfl⟩
theorem JK (w:World):Calls Tryz.prog 123 #[.slice none 0 0] w fun e w'=>e=.returned (.tuple #[])/\w'=w:=by
 go_enter Tryz.func123,Tryz.ntmps123
 go_wp2_with (first | (go_at_call 139; refine (Nl _).mono ?_; rintro e w' ⟨⟨k,rfl⟩,rfl⟩) | (go_at_call 150; refine (Nk none 0 _ _).mono ?_; rintro e w' ⟨rfl,rfl⟩))
 go_end0
 exact ⟨rfl,rfl⟩
theorem Xj:∀ (args:Array Value) (w:World),(callFunc 124 args).run Tryz.prog w=.ok (.enter 124 args) w:=fun _ _=>by kernel_rfl
theorem JL (l fb:Nat) (w:World) (h:w.cell? ⟨fb,0,none⟩=some (.slice none 0 0)) :
  Calls Tryz.prog 124 #[.func (.yield l) #[] #[],.pointer (some ⟨fb,0,none⟩)] w fun e w'=>(∃ v,e=.returned v)/\w'=w:=by
 go_enter Tryz.func124,Tryz.ntmps124
 go_wp2
 go_loopw [7] (fun iv wr=>iv=.int .i64 0/\wr=w) (fun _ _=>0)
 case atStart=>exact ⟨rfl,rfl⟩
 case round =>
  obtain ⟨rfl,rfl⟩:=hrel;go_wp2
  go_end0
  exact ⟨⟨_,rfl⟩,rfl⟩
end
section
open Go.Proofs.Ob
open Go.Proofs.Cm (Gd Gr ak ap lexLt cj St)
attribute [local irreducible] Go.Calls Go.wpList
theorem xE (fb:Nat) (w:World) (hf:CL w fb 0 (.slice none 0 0)) :
  Calls Tryz.prog 149 #[.slice none 0 0,.func (.func 124) #[] #[.pointer (some ⟨fb,0,none⟩)]] w fun e w'=>e=.returned (.slice none 0 0)/\Below w.heap.size w w':=by
 have FB:=U hf;have K:=U (Below.refl w.heap.size w);clear hf;refine RF.fV Tryz.func149 rfl ?_;simp only [Tryz.ntmps149,List.size_toArray,List.length_cons,List.length_nil,Nat.reduceAdd,Nat.reduceSub,Array.replicate_succ,Array.replicate_zero,List.push_toArray,List.append_toArray,List.nil_append,List.cons_append];go_upto_region 0 with (fail);refine c6 ?_;have aF:=CW.new w (.slice none 0 0) 26;refine d4 2 (jr (v:=.slice none 0 0) _ _ rfl rfl rfl) ?_;go_frame;have hb:=(Below.refl w.heap.size w).alloc (Nat.le_refl _) (.cells #[.slice none 0 0] 26);generalize w.alloc (.cells #[.slice none 0 0] 26)=w1 at *;replace FB:=U (FB.p.jj hb);replace K:=U (Rg.acc K.p hb);clear hb;have BX:=U aF;refine d6 4 (.slice none 0 0) ?_;go_frame;go_upto_region 1 with (fail);refine c6 ?_;refine d5 6 ((.func (.func 124) #[] #[.pointer (some ⟨fb,0,none⟩)])) ?_;go_frame
 clear aF;have Lg:=K.p.size;go_wp2;refine RF.Lh rfl Xj fun fn rec W2 ik hW hL hD hb=>callsIn_wide.2 ?_;refine (JL _ fb W2 (FB.p.jj hb).cell).mono ?_;rintro e W3 ⟨hv,rfl⟩;refine ⟨hv,.inl ⟨hL,?_⟩⟩;have eB:Below w1.heap.size w1 (W3.putObj (w1.heap.size+1) (.loop (rec .exhausted none))):=hb.trans (hL.jj (Nat.le_succ _) _);have HDF:=U (hD.put hL (.loop (rec .exhausted none)));replace K:=U (Rg.acc K.p eB);replace BX:=U (BX.p.jj eB);clear eB hb hL hD hv hW ik FB;generalize W3.putObj (w1.heap.size+1) (.loop (rec .exhausted none))=W4 at *;go_upto_region 4 with (fail);refine c6 ?_;refine d4 12 (g9 (.slice none 0 0) ⟨w.heap.size,0,none⟩ (Rg.ae _ _ Tryz.underlying26 BX.p.c)) ?_;go_frame;refine d6 4 (.slice none 0 0) ?_;go_frame;go_wp2;exact RF.leaves w.heap.size [_] _ (by simp) (by intro D fU; simp at fU; subst fU; exact ⟨HDF.p,Lg⟩) (fun W' l1 l2 _=>⟨_,results_tmp rfl _ _ _,rfl,K.p.trans l1⟩)
theorem AW (fb:Nat) (w:World) (hf:CL w fb 0 (.slice none 0 0)) :
  Calls Tryz.prog 122 #[.func (.func 124) #[] #[.pointer (some ⟨fb,0,none⟩)]] w fun e w'=>e=.returned (.slice none 0 0)/\Below w.heap.size w w':=by
 have FB:=U hf;have K:=U (Below.refl w.heap.size w);clear hf
 go_enter Tryz.func122,Tryz.ntmps122
 go_upto_region 0 with (fail);refine c6 ?_;refine d6 2 (.slice none 0 0) ?_;go_frame;go_upto_region 1 with (fail);refine c6 ?_;refine d5 3 ((.func (.func 124) #[] #[.pointer (some ⟨fb,0,none⟩)])) ?_;go_frame;refine f8 4 (aj 149 _ _ _ rfl rfl rfl (OZ _ _)) ?_;refine (xE fb w FB.p).mono ?_;rintro e1 w1 ⟨rfl,hb⟩;refine ⟨_,rfl,?_⟩;go_frame;replace FB:=U (FB.p.jj hb);replace K:=U (Rg.acc K.p hb);clear hb;refine d6 2 (.slice none 0 0) ?_;go_frame;go_wp2;go_ret;exact ⟨rfl,K.p⟩
theorem DH (fb:Nat) (w:World) (hf:CL w fb 0 (.slice none 0 0)) :
  Calls Tryz.prog 93 #[.func (.func 124) #[] #[.pointer (some ⟨fb,0,none⟩)]] w fun e w'=>e=.returned (.slice none 0 0)/\Below w.heap.size w w':=by
 have FB:=U hf;have K:=U (Below.refl w.heap.size w);clear hf
 go_enter Tryz.func93,Tryz.ntmps93
 go_upto_region 0 with (fail);refine c6 ?_;refine d6 2 (.slice none 0 0) ?_;go_frame;go_upto_region 1 with (fail);refine c6 ?_;refine d5 4 ((.func (.func 124) #[] #[.pointer (some ⟨fb,0,none⟩)])) ?_;go_frame;refine f8 5 (aE 122 _ _ rfl rfl (O4 _ _)) ?_;refine (AW fb w FB.p).mono ?_;rintro e1 w1 ⟨rfl,hb⟩;refine ⟨_,rfl,?_⟩;go_frame;replace FB:=U (FB.p.jj hb);replace K:=U (Rg.acc K.p hb);clear hb;refine d6 3 (.slice none 0 0) ?_;go_frame;go_upto_region 2 with (fail);refine c6 ?_;refine d5 6 (.slice none 0 0) ?_;go_frame;refine f8 7 (aE 123 _ _ rfl rfl (O7 _ _)) ?_;refine ((JK w1).mono (R':=fun e w'=>e=.returned (.tuple #[])/\Below w1.heap.size w1 w') (fun e w' h=>⟨h.1,h.2▸Below.refl _ _⟩)).mono ?_;rintro e1 w2 ⟨rfl,hb⟩;refine ⟨_,rfl,?_⟩;go_frame;replace FB:=U (FB.p.jj hb);replace K:=U (Rg.acc K.p hb)
 clear hb;go_wp2;go_ret;exact ⟨rfl,K.p⟩
theorem Gz (la:Option Addr) (lc:Nat) (gv:Value) (w:World) :
  Calls Tryz.prog 205 #[.slice la 0 lc,gv] w fun e w'=>e=.returned (.slice none 0 0)/\Below w.heap.size w w':=by
 go_enter Tryz.func205,Tryz.ntmps205
 go_wp2
 go_loopw [5,10] (fun ov iv wr=>ov=.slice none 0 0/\iv=.int .i64 0/\wr=w) (fun _ _ _=>0)
 case atStart=>exact ⟨rfl,rfl,rfl⟩
 case round =>
  obtain ⟨rfl,rfl,rfl⟩:=hrel;go_wp2;go_ret;exact ⟨rfl,Below.refl _ _⟩
theorem JM {l:List Int} (h:eX B W v l) (h1:1<=l.length) (hl:l.length<=1000000):jq W.heap.size W v l:=by
 obtain ⟨a,cap,e1,_,_,_,h5⟩:=h.fi (by omega) (G:=fun _=>True) (fun _ _ _=>trivial);obtain ⟨b,o,rfl,hb,_,hc⟩:=h5 (by rw [List.length_map]; omega);rw [List.length_map] at e1;refine ⟨b,o,cap,e1,hb,fun j hj=>?_⟩;have:=hc j (by rw [List.length_map]; exact hj);rw [List.getElem_map] at this;rw [this,List.getElem?_eq_getElem hj];rfl
theorem GA (hN:N<=64) (sv tv gv:Value) (s t g:List Nat) (w:World) (hs:Rg.NP w sv s) (ht:Rg.NP w tv t) (hg:Rg.NP w gv g) (iF:∀ y∈s,y<N) (hl:s.length<=100000) (gg:Gd N g) :
  Calls Tryz.prog 204 #[.agg #[sv,tv],gv] w fun e w'=>e=.returned (.bool (decide (Ob.jk (Ma.af (s.map (ap g)))=Ma.af t)))/\Below w.heap.size w w':=by
 obtain ⟨n,xa,xc,hn,rfl,-⟩:=Rg.Ints.len hs;obtain ⟨n2,ya,yc,cN,rfl,-⟩:=Rg.Ints.len ht;obtain ⟨n3,ga,gc,Gw,rfl,-⟩:=Rg.Ints.len hg;have NX:=U (dm.mk hs);have NY:=U (dm.mk ht);have NG:=U (dm.mk hg);have HL:=U hl;have GG:=U gg;have K:=U (Below.refl w.heap.size w);rw [Ma.az] at hn;have HN:=U hn;obtain ⟨A,hA⟩:∃ z,Hid (Ob.jk (Ma.af (s.map (ap g)))=z):=⟨_,U rfl⟩;rw [hA.p];clear hs ht hg gg cN Gw hl hn
 go_enter Tryz.func204,Tryz.ntmps204
 go_upto_region 0 with (fail);refine c6 ?_;have aF:=JJ w (.slice xa n xc) (.slice ya n2 yc) 83;refine d4 2 (Rg.aY _ _ rfl rfl) ?_;go_frame;have hb:=(Below.refl w.heap.size w).alloc (Nat.le_refl _) (.cells #[.slice xa n xc,.slice ya n2 yc] 83);generalize w.alloc (.cells #[.slice xa n xc,.slice ya n2 yc] 83)=w1 at *;replace NX:=U (NX.p.jj hb);replace NY:=U (NY.p.jj hb);replace NG:=U (NG.p.jj hb);replace K:=U (Rg.acc K.p hb);clear hb;have B0:=U aF.1;have B1:=U aF.2;clear aF;refine d6 4 (.bool false) ?_;go_frame
 by_cases h0:s=[]
 case pos =>
  obtain rfl:n=0:=by rw [<- HN.p,h0]; rfl
  obtain rfl:A=[]:=by rw [<- hA.p,h0]; rfl
  go_upto_region 1 with (fail);have aw:Below w1.heap.size w1 w1.drew:=(Below.refl _ _).drew;replace NX:=U (NX.p.jj aw);replace NY:=U (NY.p.jj aw);replace NG:=U (NG.p.jj aw);replace B0:=U (B0.p.jj aw);replace B1:=U (B1.p.jj aw);replace K:=U (Rg.acc K.p aw);clear aw;refine Rg.Any.begin (S:=Rg.aI 9 (fun _=>True) (fun W=>Below w1.drew.heap.size w1.drew W)) mix ?_;generalize w1.drew=w2 at *;have hS:∀ (l:Array Bool) W,Below w2.heap.size w2 W->Rg.aI 9 (fun _=>True) (fun W=>Below w2.heap.size w2 W) l W:=fun l W h=>⟨.inr trivial,h⟩;have hI:Below w2.heap.size w2 w2:=Below.refl _ _;refine d7 0 9 (.pointer (some ⟨w.heap.size,0,none⟩)) 5 rfl rfl (.inl ⟨rfl,fun w _=>ag _ rfl rfl (Vi _ _)⟩) (hS _ _ hI) ?_;go_frame;refine d7 1 9 (.slice xa 0 xc) 6 rfl rfl (j0 ⟨w.heap.size,0,none⟩ (fun W hW=>Rg.ae _ _ Tryz.underlying26 ((Below.cell (p:=⟨w.heap.size,0,none⟩) hW B0.p.lt).trans B0.p.cell))) (hS _ _ hI) ?_;go_frame
  refine d8 2 9 (.slice ga n3 gc) 7 (hS _ _ hI) ?_;go_frame;refine d7 6 9 (.pointer (some ⟨w.heap.size,1,none⟩)) 11 rfl rfl (.inl ⟨rfl,fun w _=>ag _ rfl rfl (Vj _ _)⟩) (hS _ _ hI) ?_;go_frame;refine d7 7 9 (.slice ya n2 yc) 12 rfl rfl (j0 ⟨w.heap.size,1,none⟩ (fun W hW=>Rg.ae _ _ Tryz.underlying26 ((Below.cell (p:=⟨w.heap.size,1,none⟩) hW B1.p.lt).trans B1.p.cell))) (hS _ _ hI) ?_;go_frame;refine Rg.Any.one (i:=3) (by kernel_rfl) (Rg.Any.ask (some 8) rfl rfl rfl _ _ (aj 205 _ _ _ rfl rfl rfl (JI _ _)) ?_);refine (Gz xa xc _ w2).mono ?_;rintro e1 w3 ⟨rfl,hb⟩;have aS:=Rg.acc hI hb;clear hb hI;refine ⟨_,rfl,(hS _ _ aS),?_⟩;go_frame;refine Rg.Any.one (i:=4) (by kernel_rfl) (Rg.Any.ask (some 9) rfl rfl rfl _ _ (aE 94 _ _ rfl rfl (IZ _ _)) ?_);refine (qf none 0 0 w3).mono ?_;rintro e1 w4 ⟨fb,rfl,lI,hb⟩
  have bf:=Rg.acc aS hb;have bZ:=hb;clear hb aS;refine ⟨_,rfl,(hS _ _ bf),?_⟩;go_frame;have FB:=U lI;refine Rg.Any.one (i:=5) (by kernel_rfl) (Rg.Any.ask (some 10) rfl rfl rfl _ _ (aE 93 _ _ rfl rfl (I2 _ _)) ?_);refine (DH fb w4 FB.p).mono ?_;rintro e1 w5 ⟨rfl,hb⟩;have cq:=Rg.acc bZ hb;have bx:=Rg.acc bf hb;have eK:=hb;clear hb bZ bf;refine ⟨_,rfl,(hS _ _ bx),?_⟩;go_frame;refine Rg.Any.one (i:=8) (by kernel_rfl) (Rg.Any.ask (some 13) rfl rfl rfl _ _ (aj 126 _ _ _ rfl rfl rfl (De _ _)) ?_);refine (mK _ _ [] (Ma.af t) w5 (MS _) (NY.p.jj bx).i).mono ?_;rintro e1 w6 ⟨rfl,hb⟩;have fW:=Rg.acc eK hb;have mf:=Rg.acc cq hb;have iQ:=Rg.acc bx hb;have DI:=hb;clear hb eK cq bx;refine ⟨_,rfl,(hS _ _ iQ),?_⟩;go_frame;refine i9 9 4 rfl rfl (Rg.bw (v:=(.bool (decide (([]:List Int)=Ma.af t)))) _ rfl rfl) (hS _ _ iQ) ?_;go_frame
  refine Rg.Any.done (by kernel_rfl) ?_ _;replace NX:=U (NX.p.jj iQ);replace NY:=U (NY.p.jj iQ);replace NG:=U (NG.p.jj iQ);replace B0:=U (B0.p.jj iQ);replace B1:=U (B1.p.jj iQ);replace FB:=U (FB.p.jj fW);replace K:=U (Rg.acc K.p iQ);clear hS fW mf iQ DI;clear lI;go_wp2;go_ret;exact ⟨rfl,K.p⟩
 case neg =>
  have HP:=U (show 1<=(Ma.af (s.map (ap g))).length by rw [Ma.az,List.length_map]; exact List.length_pos_iff.2 h0);have HQ:=U (show (Ma.af (s.map (ap g))).length<=1000000 by rw [Ma.az,List.length_map]; have:=HL.p; omega);go_upto_region 1 with (fail);have aw:Below w1.heap.size w1 w1.drew:=(Below.refl _ _).drew;replace NX:=U (NX.p.jj aw);replace NY:=U (NY.p.jj aw);replace NG:=U (NG.p.jj aw);replace B0:=U (B0.p.jj aw);replace B1:=U (B1.p.jj aw);replace K:=U (Rg.acc K.p aw);clear aw;refine Rg.Any.begin (S:=Rg.aI 9 (fun _=>True) (fun W=>Below w1.drew.heap.size w1.drew W)) mix ?_;generalize w1.drew=fT at *;have hS:∀ (l:Array Bool) W,Below fT.heap.size fT W->Rg.aI 9 (fun _=>True) (fun W=>Below fT.heap.size fT W) l W:=fun l W h=>⟨.inr trivial,h⟩;have hI:Below fT.heap.size fT fT:=Below.refl _ _
  refine d7 0 9 (.pointer (some ⟨w.heap.size,0,none⟩)) 5 rfl rfl (.inl ⟨rfl,fun w _=>ag _ rfl rfl (Vi _ _)⟩) (hS _ _ hI) ?_;go_frame;refine d7 1 9 (.slice xa n xc) 6 rfl rfl (j0 ⟨w.heap.size,0,none⟩ (fun W hW=>Rg.ae _ _ Tryz.underlying26 ((Below.cell (p:=⟨w.heap.size,0,none⟩) hW B0.p.lt).trans B0.p.cell))) (hS _ _ hI) ?_;go_frame;refine d8 2 9 (.slice ga n3 gc) 7 (hS _ _ hI) ?_;go_frame;refine d7 6 9 (.pointer (some ⟨w.heap.size,1,none⟩)) 11 rfl rfl (.inl ⟨rfl,fun w _=>ag _ rfl rfl (Vj _ _)⟩) (hS _ _ hI) ?_;go_frame;refine d7 7 9 (.slice ya n2 yc) 12 rfl rfl (j0 ⟨w.heap.size,1,none⟩ (fun W hW=>Rg.ae _ _ Tryz.underlying26 ((Below.cell (p:=⟨w.heap.size,1,none⟩) hW B1.p.lt).trans B1.p.cell))) (hS _ _ hI) ?_;go_frame;refine Rg.Any.one (i:=3) (by kernel_rfl) (Rg.Any.ask (some 8) rfl rfl rfl _ _ (aj 205 _ _ _ rfl rfl rfl (JI _ _)) ?_)
  refine (ux hN _ _ s g fT NX.p.i iF HL.p NG.p.i GG.p).mono ?_;rintro e1 pG ⟨iv,rfl,lY,hb⟩;obtain ⟨ia,ic,gG⟩:=lY.shape;subst gG;have js:=Rg.acc hI hb;clear hb hI;refine ⟨_,rfl,(hS _ _ js),?_⟩;go_frame;have RO:=U lY;refine Rg.Any.one (i:=4) (by kernel_rfl) (Rg.Any.ask (some 9) rfl rfl rfl _ _ (aE 94 _ _ rfl rfl (IZ _ _)) ?_);refine (qf _ _ _ pG).mono ?_;rintro e1 w24 ⟨fb,rfl,lI,hb⟩;have lp:=Rg.acc js hb;have cX:=hb;clear hb js;refine ⟨_,rfl,(hS _ _ lp),?_⟩;go_frame;have FB:=U lI;refine Rg.Any.one (i:=5) (by kernel_rfl) (Rg.Any.ask (some 10) rfl rfl rfl _ _ (aE 93 _ _ rfl rfl (I2 _ _)) ?_);refine (wO fb _ (Ma.af (s.map (ap g))) HP.p HQ.p w24 FB.p.lt FB.p.cell (JM (RO.p.jj cX) HP.p HQ.p)).mono ?_;rintro e1 w25 ⟨zv,rfl,hzv,hb⟩;have qH:=Rg.acc cX hb
  have nx:=Rg.acc lp hb;have sQ:=hb;clear hb cX lp;refine ⟨_,rfl,(hS _ _ nx),?_⟩;go_frame;have RZ:=U (eX.mk (by rw [p7]; exact hzv));refine Rg.Any.one (i:=8) (by kernel_rfl) (Rg.Any.ask (some 13) rfl rfl rfl _ _ (aj 126 _ _ _ rfl rfl rfl (De _ _)) ?_);refine (mK _ _ (Ob.jk (Ma.af (s.map (ap g)))) (Ma.af t) w25 ((RZ.p.fi (by rw [p7]; have:=HQ.p; omega) (G:=fun _=>True) (fun _ _ _=>trivial)).ints) (NY.p.jj nx).i).mono ?_;rintro e1 w26 ⟨rfl,hb⟩;have gK:=Rg.acc sQ hb;have jt:=Rg.acc qH hb;have lq:=Rg.acc nx hb;have zz:=hb;clear hb sQ qH nx;refine ⟨_,rfl,(hS _ _ lq),?_⟩;go_frame;refine Rg.Any.one (i:=9) (by kernel_rfl) (Rg.Any.run (some 4) rfl rfl rfl (Rg.bw (v:=(.bool (decide (Ob.jk (Ma.af (s.map (ap g)))=Ma.af t)))) _ rfl rfl) (hS _ _ lq) ?_)
  go_frame;refine Rg.Any.done (by kernel_rfl) ?_ _;replace NX:=U (NX.p.jj lq);replace NY:=U (NY.p.jj lq);replace NG:=U (NG.p.jj lq);replace B0:=U (B0.p.jj lq);replace B1:=U (B1.p.jj lq);replace RO:=U (RO.p.jj jt);replace FB:=U (FB.p.jj gK);replace RZ:=U (RZ.p.jj zz);replace K:=U (Rg.acc K.p lq);clear hS gK jt lq zz;clear lY lI hzv;go_wp2;go_ret;exact ⟨by rw [<- hA.p]; rfl,K.p⟩

theorem zA (args:Array Value) (w:World):(callFunc 67 args).run Tryz.prog w=.ok (.enter 67 args) w:=by kernel_rfl
theorem GB {b:Nat} {x y z:Value} (h0:w.cell? ⟨b,1,none⟩=some x) (h1:w.cell? ⟨b,2,none⟩=some y) (h2:w.cell? ⟨b,3,none⟩=some z):(loadVar 25 ⟨b,1,none⟩).run Tryz.prog w=.ok (.agg #[x,y,z]) w:=by
 obtain ⟨i0,hi,cT,bz,dW⟩:=info_parts gZ
 have pV:(⟨b,1,none⟩:Addr).add 0=⟨b,1,none⟩:=by simp [Addr.add]
 have mX:(⟨b,1,none⟩:Addr).add 1=⟨b,2,none⟩:=by simp [Addr.add]
 have mA:(⟨b,1,none⟩:Addr).add 2=⟨b,3,none⟩:=by simp [Addr.add]
 have hg:(isAgg 25).run Tryz.prog w=.ok true w:=by kernel_rfl
 simp [loadVar,hg,sizeOf,typeInfo,hi,bz,loadCells,loadCellsFrom,load,pV,mX,mA];simp [Sem.run,h0,h1,h2]
theorem DJ (w:World) (x y z u:Value) (t:TypeId):CL (w.alloc (.cells #[x,y,z,u] t)) w.heap.size 0 x/\CL (w.alloc (.cells #[x,y,z,u] t)) w.heap.size 1 y/\CL (w.alloc (.cells #[x,y,z,u] t)) w.heap.size 2 z/\CL (w.alloc (.cells #[x,y,z,u] t)) w.heap.size 3 u :=
 ⟨CL.mk (by rw [Rg.aL]; rfl) (by simp),CL.mk (by rw [Rg.aL]; rfl) (by simp),CL.mk (by rw [Rg.aL]; rfl) (by simp),CL.mk (by rw [Rg.aL]; rfl) (by simp)⟩
theorem GD (fL:1<=N) (hN:N<=64) (lv ov rv gv:Value) (gens:List (List Nat)) (n:Int) (OO:List (List Int)) (RR:List (List (List Int))) (g:List Nat) (w:World) (hl:Rg.Rows w lv (gens.map Ma.af)) (ft:∀ x∈gens,Gd N x) (hc:aW w ov rv OO RR) (hg:Rg.NP w gv g) (gg:Gd N g) :
  Calls Tryz.prog 207 #[.agg #[lv,.int .i64 n,ov,rv],gv] w fun e w'=>e=.returned (.bool (gens.all fun x=>nX n OO RR (Ma.af (dz x g))))/\Below w.heap.size w w':=by
 obtain ⟨la,lc,rfl,_,u_,-,-⟩:=hl.shape;rw [List.length_map] at hl u_ ⊢;obtain ⟨oa,oc,rfl,-⟩:=hc.1.shape;obtain ⟨ra,rc,rfl⟩:=hc.2.shape;obtain ⟨n3,ga,gc,Gw,rfl,-⟩:=Rg.Ints.len hg;have HL:=U (iR.mk hl);have CE:=U hc;have NG:=U (dm.mk hg);have GG:=U gg;have HG:=U ft;have K:=U (Below.refl w.heap.size w);obtain ⟨pb,uy⟩:∃ b,Hid ((gens.all fun x=>nX n OO RR (Ma.af (dz x g)))=b):=⟨_,U rfl⟩;rw [uy.p];clear hl hc hg gg Gw ft
 go_enter Tryz.func207,Tryz.ntmps207
 go_upto_region 0 with (fail);refine c6 ?_;have aF:=DJ w (.slice la gens.length lc) (.int .i64 n) (.slice oa OO.length oc) (.slice ra RR.length rc) 99;refine d4 2 (Rg.aY _ _ rfl rfl) ?_;go_frame;have hb:=(Below.refl w.heap.size w).alloc (Nat.le_refl _) (.cells #[.slice la gens.length lc,.int .i64 n,.slice oa OO.length oc,.slice ra RR.length rc] 99);generalize w.alloc (.cells #[.slice la gens.length lc,.int .i64 n,.slice oa OO.length oc,.slice ra RR.length rc] 99)=w1 at *;replace HL:=U (HL.p.jj hb);replace CE:=U (CE.p.jj hb);replace NG:=U (NG.p.jj hb);replace K:=U (Rg.acc K.p hb);clear hb;have B0:=U aF.1;have B1:=U aF.2.1;have B2:=U aF.2.2.1;have B3:=U aF.2.2.2;clear aF;refine d6 4 (.bool false) ?_;go_frame;go_upto_region 1 with (fail);refine c6 ?_;refine d4 11 (ag _ rfl rfl (aam _ _)) ?_;go_frame;refine d4 12 (g9 (.slice la gens.length lc) ⟨w.heap.size,0,none⟩ (Rg.ae _ _ Tryz.underlying41 B0.p.cell)) ?_;go_frame
 refine d4 13 (i4 Tryz.underlying41) ?_;go_frame;refine d5 14 (.int .i64 ((0:Nat):Int)) ?_;go_frame;go_wp2
 go_loopw [14] (fun iv wr=>∃ k:Nat,iv=.int .i64 ((k:Nat):Int)/\k<=gens.length/\Hid (∀ i (h:i<gens.length),i<k->nX n OO RR (Ma.af (dz gens[i] g))=true)/\Hid (Below w.heap.size w wr)/\Hid (Rg.Rows wr (.slice la gens.length lc) (gens.map Ma.af))/\Hid (aW wr (.slice oa OO.length oc) (.slice ra RR.length rc) OO RR)/\Hid (dm wr (.slice ga n3 gc) (Ma.af g))/\Hid (CL wr w.heap.size 1 (.int .i64 n)/\CL wr w.heap.size 2 (.slice oa OO.length oc)/\CL wr w.heap.size 3 (.slice ra RR.length rc))) (fun iv _=>gens.length - (intOf iv).toNat)
 case atStart=>exact ⟨0,rfl,Nat.zero_le _,U (fun i h h0=>absurd h0 (Nat.not_lt_zero _)),K,U HL.p.r,CE,NG,U ⟨B1.p,B2.p,B3.p⟩⟩
 case round =>
  clear K HL CE NG B0 B1 B2 B3;obtain ⟨k,rfl,hk,HA,K,TP,CE,NG,HB⟩:=hrel;generalize wr=wA at *;have HL:=U (iR.mk TP.p);have B1:=U HB.p.1;have B2:=U HB.p.2.1;have B3:=U HB.p.2.2;clear TP HB
  by_cases aB:k<gens.length
  case neg =>
   obtain rfl:k=gens.length:=by omega
   have HX:=U (show true=pb by
    rw [<- uy.p]
    symm
    rw [List.all_eq_true];intro x hx;obtain ⟨i,hi,rfl⟩:=List.getElem_of_mem hx
    exact HA.p i hi hi)
   go_upto_region 2 with (fail);refine c6 ?_;refine d4 15 (i3 (.bool false) .lss (h:=bj _ g7)) ?_;go_frame;go_upto_region 9 with (fail);refine c6 ?_;refine d6 4 (.bool true) ?_;go_frame;go_wp2;go_ret;exact ⟨Rg.dU HX.p,K.p⟩
  case pos =>
   obtain ⟨lb,lo,_,_,e1,cZ,cF,dg⟩:=jy HL.p.r (i:=k) (by rw [List.length_map]; exact aB);subst e1;obtain ⟨x,hx⟩:∃ x,Hid (gens[k]=x):=⟨_,U rfl⟩;have GX:=U (show Gd N x from hx.p▸HG.p _ (List.getElem_mem aB));rw [List.getElem_map,hx.p] at cF dg;obtain ⟨xa,xc,gG,-⟩:=dg.shape
   rename_i Xk Xl
   have CX:=U (CL.mk cF cZ);have NX:=U (dm.mk dg);clear cZ cF dg gG;obtain ⟨ib,GF⟩:∃ b,Hid (nX n OO RR (Ma.af (dz x g))=b):=⟨_,U rfl⟩;go_upto_region 2 with (fail);refine c6 ?_;refine d4 15 (i3 (.bool true) .lss (h:=bj _ f9)) ?_;go_frame;go_upto_region 3 with (fail);refine c6 ?_;refine d4 16 (aD cp _ _ rfl lb (lo) (gens.length) lc (k) rfl rfl (by omega)) ?_;go_frame;refine d4 17 (g9 (.slice Xk (Ma.af x).length Xl) ⟨lb,lo+k,none⟩ (Rg.ae _ _ Tryz.underlying27 CX.p.cell)) ?_;go_frame;refine d6 6 (.slice Xk (Ma.af x).length Xl) ?_;go_frame;go_upto_region 4 with (fail);refine c6 ?_;refine d5 19 (.slice Xk (Ma.af x).length Xl) ?_;go_frame;refine d5 20 (.slice ga n3 gc) ?_;go_frame;refine f8 21 (aj 202 _ _ _ rfl rfl rfl (QC _ _)) ?_;refine (uw fL hN _ _ x g wA NX.p.i NG.p.i GX.p GG.p).mono ?_
   rintro e1 fT ⟨cv,rfl,hcv,hb⟩;refine ⟨_,rfl,?_⟩;go_frame;replace HL:=U (HL.p.jj hb);replace CE:=U (CE.p.jj hb);replace NG:=U (NG.p.jj hb);replace B1:=U (B1.p.jj hb);replace B2:=U (B2.p.jj hb);replace B3:=U (B3.p.jj hb);replace CX:=U (CX.p.jj hb);replace NX:=U (NX.p.jj hb);replace K:=U (Rg.acc K.p hb);clear hb;have NC:=U (dm.mk hcv.1);refine d5 18 (.tuple #[cv,.int .i64 0]) ?_;go_frame;refine d4 22 (i7 (cv)) ?_;go_frame;refine d4 23 (i7 (.int .i64 0)) ?_;go_frame;refine d6 7 (cv) ?_;go_frame;refine d6 8 (.int .i64 0) ?_;go_frame;clear hcv;go_upto_region 5 with (fail);refine c6 ?_;refine d4 25 (ag _ rfl rfl (aan _ _)) ?_;go_frame;refine d4 26 (g9 ((.agg #[.int .i64 n,.slice oa OO.length oc,.slice ra RR.length rc])) ⟨w.heap.size,1,none⟩ (GB B1.p.cell B2.p.cell B3.p.cell)) ?_;go_frame
   refine d5 27 (cv) ?_;go_frame;refine f8 28 (aj 67 _ _ _ rfl rfl rfl (zA _ _)) ?_;refine (nZ CE.p NC.p.i).mono ?_;rintro e1 pG ⟨rfl,hb⟩;refine ⟨_,rfl,?_⟩;go_frame;replace HL:=U (HL.p.jj hb);replace CE:=U (CE.p.jj hb);replace NG:=U (NG.p.jj hb);replace B1:=U (B1.p.jj hb);replace B2:=U (B2.p.jj hb);replace B3:=U (B3.p.jj hb);replace CX:=U (CX.p.jj hb);replace NX:=U (NX.p.jj hb);replace NC:=U (NC.p.jj hb);replace K:=U (Rg.acc K.p hb);clear hb;refine d4 24 (Rg.bL (v:=.tuple #[(.bool (nX n OO RR (Ma.af (dz x g)))),.int .i64 (fX n OO RR (Ma.af (dz x g)))]) _ rfl rfl) ?_;go_frame;refine d4 29 (i7 ((.bool (nX n OO RR (Ma.af (dz x g)))))) ?_;go_frame;refine d4 30 (i7 (.int .i64 (fX n OO RR (Ma.af (dz x g))))) ?_;go_frame;refine d4 9 (Rg.bw (v:=(.bool (nX n OO RR (Ma.af (dz x g))))) _ rfl rfl) ?_;go_frame
   refine d6 10 (.int .i64 (fX n OO RR (Ma.af (dz x g)))) ?_;go_frame;rw [GF.p]
   by_cases DK:ib=true
   case pos =>
    subst DK;go_upto_region 6 with (fail);refine c6 ?_;refine d5 31 (.bool true) ?_;go_frame;refine d4 32 (bu _ _ true rfl rfl) ?_;go_frame;go_upto_region 8 with (fail);refine c6 ?_;refine d4 33 (i3 (.int .i64 (((k+1):Nat):Int)) .add (h:=cg _ (by omega) (by omega))) ?_;go_frame;refine d5 14 (.int .i64 (((k+1):Nat):Int)) ?_;go_frame
    have oH:=U (show ∀ i (h:i<gens.length),i<k+1->nX n OO RR (Ma.af (dz gens[i] g))=true from fun i h hi=>by
     by_cases e:i=k
     ·subst e; rw [hx.p]; exact GF.p
     ·exact HA.p i h (by omega))
    have TP:=U HL.p.r;have HB:=U (⟨B1.p,B2.p,B3.p⟩:CL _ _ _ _/\CL _ _ _ _/\CL _ _ _ _);clear HA HL CX NX NC;go_wp2
    go_roundw
    case rel=>exact ⟨k+1,by go_num,aB,oH,K,TP,CE,NG,HB⟩
    case measure=>simp [intOf]; omega
   case neg =>
    obtain rfl:ib=false:=by cases ib <;> simp at DK ⊢
    go_upto_region 6 with (fail);refine c6 ?_;refine d5 31 (.bool false) ?_;go_frame;refine d4 32 (bu _ _ false rfl rfl) ?_;go_frame;go_upto_region 7 with (fail);refine c6 ?_;refine d6 4 (.bool false) ?_;go_frame
    have HX:=U (show false=pb by
     rw [<- uy.p]
     symm
     rw [List.all_eq_false]
     exact ⟨x,hx.p▸List.getElem_mem aB,by rw [GF.p]; decide⟩)
    go_wp2;go_ret;exact ⟨Rg.dU HX.p,K.p⟩

theorem Xm (args:Array Value) (w:World):(callFunc 134 args).run Tryz.prog w=.ok (.enter 134 args) w:=by kernel_rfl
abbrev gS:=Int × List (List Int) × List (List (List Int))
structure n_ (b:Nat) (CS:List gS) (W:World):Prop where
 lt:b<W.heap.size
 at_:∀ i (h:i<CS.length),∃ oa on oc ra rn rc,W.cell? ⟨b,i*3,none⟩=some (.int .i64 CS[i].1)/\W.cell? ⟨b,i*3+1,none⟩=some (.slice oa on oc)/\W.cell? ⟨b,i*3+2,none⟩=some (.slice ra rn rc)/\aW W (.slice oa on oc) (.slice ra rn rc) CS[i].2.1 CS[i].2.2
theorem n_.jj {b:Nat} {CS:List gS} {W W':World} (h:n_ b CS W) (hb:Below W.heap.size W W'):n_ b CS W' :=
 ⟨Nat.lt_of_lt_of_le h.lt hb.size,fun i hi=>by
  obtain ⟨oa,on,oc,ra,rn,rc,h0,h1,h2,h3⟩:=h.at_ i hi
  exact ⟨oa,on,oc,ra,rn,rc,(hb.cell (p:=⟨b,i*3,none⟩) h.lt).trans h0,(hb.cell (p:=⟨b,i*3+1,none⟩) h.lt).trans h1,(hb.cell (p:=⟨b,i*3+2,none⟩) h.lt).trans h2,h3.jj hb⟩⟩
theorem kP {b o:Nat} {x y z:Value} (h0:w.cell? ⟨b,o,none⟩=some x) (h1:w.cell? ⟨b,o+1,none⟩=some y) (h2:w.cell? ⟨b,o+2,none⟩=some z):(loadVar 25 ⟨b,o,none⟩).run Tryz.prog w=.ok (.agg #[x,y,z]) w:=by
 obtain ⟨i0,hi,cT,bz,dW⟩:=info_parts gZ
 have pV:(⟨b,o,none⟩:Addr).add 0=⟨b,o,none⟩:=by simp [Addr.add]
 have mX:(⟨b,o,none⟩:Addr).add 1=⟨b,o+1,none⟩:=by simp [Addr.add]
 have mA:(⟨b,o,none⟩:Addr).add 2=⟨b,o+2,none⟩:=by simp [Addr.add]
 have hg:(isAgg 25).run Tryz.prog w=.ok true w:=by kernel_rfl
 simp [loadVar,hg,sizeOf,typeInfo,hi,bz,loadCells,loadCellsFrom,load,pV,mX,mA];simp [Sem.run,h0,h1,h2]
theorem od:(Tryz.prog.info? 25).map (·.size)=some 3:=by kernel_rfl
theorem Nn (n m:Int) (ov rv:Value) (nb:Nat) (w:World) (h:w.cell? ⟨nb,0,none⟩=some (.int .i64 n)) (pN:nb<w.heap.size) :
  Calls Tryz.prog 101 #[.agg #[.int .i64 m,ov,rv],.pointer (some ⟨nb,0,none⟩)] w fun e w'=>e=.returned (.bool (decide (m≠n)))/\Below w.heap.size w w':=by
 have N0:=U (CL.mk h pN);have K:=U (Below.refl w.heap.size w);obtain ⟨bb,mW⟩:∃ b,Hid (decide (m≠n)=b):=⟨_,U rfl⟩;rw [mW.p];clear h pN
 go_enter Tryz.func101,Tryz.ntmps101
 go_upto_region 0 with (fail);refine c6 ?_;have aF:=eY w (.int .i64 m) (ov) (rv);refine d4 2 (Rg.aY _ _ rfl rfl) ?_;go_frame;have hb:=(Below.refl w.heap.size w).alloc (Nat.le_refl _) (.cells #[.int .i64 m,ov,rv] 25);generalize w.alloc (.cells #[.int .i64 m,ov,rv] 25)=w1 at *;replace N0:=U (N0.p.jj hb);replace K:=U (Rg.acc K.p hb);clear hb;have A0:=U aF.1;have A1:=U aF.2.1;have A2:=U aF.2.2;clear aF;refine d6 3 (.bool false) ?_;go_frame;go_upto_region 1 with (fail);refine c6 ?_;refine d4 4 (ag _ rfl rfl (fF _ _)) ?_;go_frame;refine d4 5 (g9 (.int .i64 m) ⟨w.heap.size,0,none⟩ (ah A0.p.cell)) ?_;go_frame;refine d4 6 (g9 (.int .i64 n) ⟨nb,0,none⟩ (ah N0.p.cell)) ?_;go_frame;refine d4 7 (i3 (.bool bb) .neq (h:=aQ _ mW.p)) ?_;go_frame;refine d6 3 (.bool bb) ?_;go_frame;go_wp2
 go_ret;exact ⟨rfl,K.p⟩
theorem BQ (n:Int) (pv:Value) (pl:List Int) (nb:Nat) (w:World) (h:w.cell? ⟨nb,0,none⟩=some (.int .i64 n)) (pN:nb<w.heap.size) (hp:Rg.Ints w pv pl) :
  Calls Tryz.prog 103 #[pv,.pointer (some ⟨nb,0,none⟩)] w fun e w'=>e=.returned (.bool (decide ((pl.length:Int)≠n)))/\Below w.heap.size w w':=by
 obtain ⟨m,pa,pc,hm,rfl,-⟩:=hp.len;rw [hm];have N0:=U (CL.mk h pN);have K:=U (Below.refl w.heap.size w);obtain ⟨bb,mW⟩:∃ b,Hid (decide (((m:Nat):Int)≠n)=b):=⟨_,U rfl⟩;rw [mW.p];clear h pN hp hm
 go_enter Tryz.func103,Tryz.ntmps103
 go_upto_region 0 with (fail);refine c6 ?_;refine d6 3 (.bool false) ?_;go_frame;go_upto_region 1 with (fail);refine c6 ?_;refine d5 4 (.slice pa m pc) ?_;go_frame;refine d4 5 (i4 Tryz.underlying27) ?_;go_frame;refine d4 6 (g9 (.int .i64 n) ⟨nb,0,none⟩ (ah N0.p.cell)) ?_;go_frame;refine d4 7 (i3 (.bool bb) .neq (h:=aQ _ mW.p)) ?_;go_frame;refine d6 3 (.bool bb) ?_;go_frame;go_wp2;go_ret;exact ⟨rfl,K.p⟩
def i_ (n:Int) (p:Int):Bool:=decide (p<0) || decide (n<=p)
theorem qZ (n x:Int) (nb:Nat) (w:World) (h:w.cell? ⟨nb,0,none⟩=some (.int .i64 n)) (pN:nb<w.heap.size) :
  Calls Tryz.prog 104 #[.int .i64 x,.pointer (some ⟨nb,0,none⟩)] w fun e w'=>e=.returned (.bool (i_ n x))/\Below w.heap.size w w':=by
 have N0:=U (CL.mk h pN);have K:=U (Below.refl w.heap.size w);obtain ⟨b2,eB⟩:∃ b,Hid (decide (n<=x)=b):=⟨_,U rfl⟩;clear h pN
 by_cases h0:x<0
 case pos =>
  have HE:=U (show i_ n x=true by unfold i_; rw [decide_eq_true h0]; rfl);rw [HE.p]
  go_enter Tryz.func104,Tryz.ntmps104
  go_upto_region 0 with (fail);refine c6 ?_;refine d6 3 (.bool false) ?_;go_frame;go_upto_region 1 with (fail);refine c6 ?_;refine d5 4 (.int .i64 x) ?_;go_frame;refine d4 5 (i3 (.bool true) .lss (h:=bj _ f9)) ?_;go_frame;refine d5 6 (.bool true) ?_;go_frame;refine g8 7 ?_;go_frame;refine g8 8 ?_;go_frame;refine g8 9 ?_;go_frame;refine d4 10 (i6 (.bool true)) ?_;go_frame;refine d6 3 (.bool true) ?_;go_frame;go_wp2;go_ret;exact ⟨rfl,K.p⟩
 case neg =>
  have HE:=U (show i_ n x=b2 by unfold i_; rw [decide_eq_false h0,eB.p]; rfl);rw [HE.p]
  go_enter Tryz.func104,Tryz.ntmps104
  go_upto_region 0 with (fail);refine c6 ?_;refine d6 3 (.bool false) ?_;go_frame;go_upto_region 1 with (fail);refine c6 ?_;refine d5 4 (.int .i64 x) ?_;go_frame;refine d4 5 (i3 (.bool false) .lss (h:=bj _ g7)) ?_;go_frame;refine d5 6 (.bool false) ?_;go_frame;refine d9 7 (a7 (.int .i64 x) _ rfl rfl) ?_;go_frame;refine d9 8 (g9 (.int .i64 n) ⟨nb,0,none⟩ (ah N0.p.cell)) ?_;go_frame;refine d9 9 (i3 (.bool b2) .geq (h:=sf _ eB.p)) ?_;go_frame;refine d4 10 (i5 (.bool b2)) ?_;go_frame;refine d6 3 (.bool b2) ?_;go_frame;go_wp2;go_ret;exact ⟨rfl,K.p⟩
theorem GJ (n:Int) (b cap nb:Nat) (CS:List gS) (w:World) (hc:n_ b CS w) (h:w.cell? ⟨nb,0,none⟩=some (.int .i64 n)) (pN:nb<w.heap.size) (hl:CS.length<=1000) :
  Calls Tryz.prog 134 #[.slice (some ⟨b,0,none⟩) CS.length cap,.func (.func 101) #[] #[.pointer (some ⟨nb,0,none⟩)]] w fun e w'=>(∃ i:Int,e=.returned (.int .i64 i)/\decide (0<=i)=CS.any (fun c=>decide (c.1≠n)))/\Below w.heap.size w w':=by
 have HC:=U hc;have N0:=U (CL.mk h pN);have K:=U (Below.refl w.heap.size w);clear hc h pN
 go_enter Tryz.func134,Tryz.ntmps134
 go_upto_region 0 with (fail);refine c6 ?_;refine d6 4 (.int .i64 ((0:Nat):Int)) ?_;go_frame;go_upto_region 1 with (fail);refine c6 ?_;refine d5 6 (.slice (some ⟨b,0,none⟩) CS.length cap) ?_;go_frame;refine d4 7 (i4 Tryz.underlying71) ?_;go_frame;refine d5 8 (.int .i64 ((0:Nat):Int)) ?_;go_frame;go_wp2
 go_loopw [8] (fun iv wr=>∃ k:Nat,iv=.int .i64 ((k:Nat):Int)/\k<=CS.length/\Hid (∀ i (h:i<CS.length),i<k->CS[i].1=n)/\Hid (Below w.heap.size w wr)) (fun iv _=>CS.length - (intOf iv).toNat)
 case atStart=>exact ⟨0,rfl,Nat.zero_le _,U (fun i h h0=>absurd h0 (Nat.not_lt_zero _)),K⟩
 case round =>
  obtain ⟨k,rfl,hk,HA,KR⟩:=hrel;generalize wr=wA at *;replace HC:=U (HC.p.jj KR.p);replace N0:=U (N0.p.jj KR.p);clear K
  by_cases aB:k<CS.length
  case neg =>
   obtain rfl:k=CS.length:=by omega
   have HX:=U (show decide ((0:Int)<=-1)=CS.any (fun c=>decide (c.1≠n)) by
    symm
    rw [show decide ((0:Int)<=-1)=false from rfl,List.any_eq_false];intro c hc;obtain ⟨i,hi,rfl⟩:=List.getElem_of_mem hc
    simp [HA.p i hi hi])
   go_upto_region 2 with (fail);refine c6 ?_;refine d4 9 (i3 (.bool false) .lss (h:=bj _ g7)) ?_;go_frame;go_upto_region 7 with (fail);refine c6 ?_;refine d6 4 (.int .i64 (-1)) ?_;go_frame;go_wp2;go_ret;exact ⟨⟨_,rfl,HX.p⟩,KR.p⟩
  case pos =>
   obtain ⟨oa,on,oc,ra,rn,rc,q0,q1,q2,q3⟩:=HC.p.at_ k aB;obtain ⟨m,hm⟩:∃ m,Hid (CS[k].1=m):=⟨_,U rfl⟩;rw [hm.p] at q0;have vZ:=kP q0 q1 q2;clear q0 q1 q2 q3;obtain ⟨bb,mW⟩:∃ b,Hid (decide (m≠n)=b):=⟨_,U rfl⟩;have QD:=Nn n m (.slice oa on oc) (.slice ra rn rc) nb wA N0.p.cell N0.p.lt;rw [mW.p] at QD;go_upto_region 2 with (fail);refine c6 ?_;refine d4 9 (i3 (.bool true) .lss (h:=bj _ f9)) ?_;go_frame;go_upto_region 3 with (fail);refine c6 ?_;refine d5 10 (.int .i64 ((k:Nat):Int)) ?_;go_frame;refine d6 5 (.int .i64 ((k:Nat):Int)) ?_;go_frame;go_upto_region 4 with (fail);refine c6 ?_;refine d5 11 ((.func (.func 101) #[] #[.pointer (some ⟨nb,0,none⟩)])) ?_;go_frame;refine d5 12 (.slice (some ⟨b,0,none⟩) CS.length cap) ?_;go_frame;refine d5 13 (.int .i64 ((k:Nat):Int)) ?_;go_frame
   refine d4 14 (bD _ _ rfl Tryz.underlying71 od b (CS.length) (cap) (k) rfl rfl (by omega)) ?_;go_frame;refine d4 15 (Rg.fQ (v:=(.agg #[.int .i64 m,.slice oa on oc,.slice ra rn rc])) _ _ rfl ⟨b,k*3,none⟩ rfl vZ) ?_;go_frame;refine f8 16 (Je 101 _ _ _ rfl rfl rfl (by kernel_rfl)) ?_;refine (QD).mono ?_;rintro e1 c_ ⟨rfl,hb⟩;refine ⟨_,rfl,?_⟩;go_frame;replace HC:=U (HC.p.jj hb);replace N0:=U (N0.p.jj hb);replace KR:=U (Rg.acc KR.p hb);clear hb;clear vZ QD
   cases bb
   case true =>
    have HX:=U (show decide ((0:Int)<=((k:Nat):Int))=CS.any (fun c=>decide (c.1≠n)) by
     symm
     rw [decide_eq_true (Int.natCast_nonneg k),List.any_eq_true]
     exact ⟨CS[k],List.getElem_mem aB,by rw [hm.p]; exact mW.p⟩)
    go_upto_region 5 with (fail);refine c6 ?_;refine d5 17 (.int .i64 ((k:Nat):Int)) ?_;go_frame;refine d6 4 (.int .i64 ((k:Nat):Int)) ?_;go_frame;go_wp2;go_ret;exact ⟨⟨_,rfl,HX.p⟩,KR.p⟩
   case false =>
    have HB:=U (show ∀ i (h:i<CS.length),i<k+1->CS[i].1=n from fun i h hi=>by
     by_cases e:i=k
     ·subst e
      have:=of_decide_eq_false mW.p;rw [hm.p];exact Classical.not_not.1 this
     ·exact HA.p i h (by omega))
    go_upto_region 6 with (fail);refine c6 ?_;refine d4 18 (i3 (.int .i64 (((k+1):Nat):Int)) .add (h:=cg _ (by omega) (by omega))) ?_;go_frame;refine d5 8 (.int .i64 (((k+1):Nat):Int)) ?_;go_frame;clear HA HC N0;go_wp2
    go_roundw
    case rel=>exact ⟨k+1,by go_num,aB,HB,KR⟩
    case measure=>simp [intOf]; omega
theorem mh (n:Int) (b cap nb:Nat) (CS:List gS) (w:World) (hc:n_ b CS w) (h:w.cell? ⟨nb,0,none⟩=some (.int .i64 n)) (pN:nb<w.heap.size) (hl:CS.length<=1000) :
  Calls Tryz.prog 100 #[.slice (some ⟨b,0,none⟩) CS.length cap,.func (.func 101) #[] #[.pointer (some ⟨nb,0,none⟩)]] w fun e w'=>e=.returned (.bool (CS.any (fun c=>decide (c.1≠n))))/\Below w.heap.size w w':=by
 have HI:=U (GJ n b cap nb CS w hc h pN hl);have K:=U (Below.refl w.heap.size w);clear hc h pN
 go_enter Tryz.func100,Tryz.ntmps100
 go_upto_region 0 with (fail);refine c6 ?_;refine d6 4 (.bool false) ?_;go_frame;go_upto_region 1 with (fail);refine c6 ?_;refine d5 5 (.slice (some ⟨b,0,none⟩) CS.length cap) ?_;go_frame;refine d5 6 ((.func (.func 101) #[] #[.pointer (some ⟨nb,0,none⟩)])) ?_;go_frame;refine f8 7 (aj 134 _ _ _ rfl rfl rfl (Xm _ _)) ?_;refine (HI.p).mono ?_;rintro e1 w1 ⟨⟨ix,rfl,xX⟩,hb⟩;have HX:=U xX;refine ⟨_,rfl,?_⟩;go_frame;replace K:=U (Rg.acc K.p hb);clear hb;refine d4 8 (i3 (.bool (decide ((0:Int)<=ix))) .geq (h:=sf _ rfl)) ?_;go_frame;refine d6 4 (.bool (decide ((0:Int)<=ix))) ?_;go_frame;clear xX HI;rw [HX.p];go_wp2;go_ret;exact ⟨rfl,K.p⟩

theorem JN (args:Array Value) (w:World):(callFunc 100 args).run Tryz.prog w=.ok (.enter 100 args) w:=by kernel_rfl
theorem QE (args:Array Value) (w:World):(callFunc 102 args).run Tryz.prog w=.ok (.enter 102 args) w:=by kernel_rfl
theorem DL (args:Array Value) (w:World):(callFunc 105 args).run Tryz.prog w=.ok (.enter 105 args) w:=by kernel_rfl
theorem Xn (args:Array Value) (w:World):(callFunc 106 args).run Tryz.prog w=.ok (.enter 106 args) w:=by kernel_rfl
theorem wW (b:Nat) (w:World):(Instr.fieldAt 73 (.pointer (some ⟨b,0,none⟩)) 0).run Tryz.prog w=.ok (.pointer (some ⟨b,0,none⟩)) w:=by kernel_rfl
theorem QF (b:Nat) (w:World):(Instr.fieldAt 73 (.pointer (some ⟨b,0,none⟩)) 1).run Tryz.prog w=.ok (.pointer (some ⟨b,1,none⟩)) w:=by kernel_rfl
theorem aao (b:Nat) (w:World):(Instr.fieldAt 73 (.pointer (some ⟨b,0,none⟩)) 2).run Tryz.prog w=.ok (.pointer (some ⟨b,2,none⟩)) w:=by kernel_rfl
theorem aap (b:Nat) (w:World):(Instr.fieldAt 73 (.pointer (some ⟨b,0,none⟩)) 3).run Tryz.prog w=.ok (.pointer (some ⟨b,3,none⟩)) w:=by kernel_rfl
noncomputable def ks:List gS->Int
 | []=>0
 | c :: l=>if bn c.1 c.2.1 c.2.2=0 then ks l else bn c.1 c.2.1 c.2.2
def pz (s:List Int):Prop:=∀ j (h:j<s.length),1<=j->s[j - 1]'(by omega)<s[j]
open Classical in
noncomputable def j2 (n:Int) (s:List Int):Int:=if s.any (i_ n)=true then 2 else if pz s then 0 else 9
noncomputable def jC (n:Int):List (List Int)->Int
 | []=>0
 | s :: l=>if j2 n s=0 then jC n l else j2 n s
def lA (n:Int) (t:List Int):Int:=if 64<t.length then 4 else if t.any (i_ n)=true then 2 else 0
def ku (n:Int):List (List Int)->Int
 | []=>0
 | t :: l=>if lA n t=0 then ku n l else lA n t
theorem Np {CS:List gS} {k:Nat} (hk:k<CS.length) (h:bn CS[k].1 CS[k].2.1 CS[k].2.2=0):ks (CS.drop k)=ks (CS.drop (k+1)):=by rw [List.drop_eq_getElem_cons hk,ks,if_pos h]
theorem QG {CS:List gS} {k:Nat} (hk:k<CS.length) (h:¬ bn CS[k].1 CS[k].2.1 CS[k].2.2=0):ks (CS.drop k)=bn CS[k].1 CS[k].2.1 CS[k].2.2:=by rw [List.drop_eq_getElem_cons hk,ks,if_neg h]
theorem Nq {n:Int} {SS:List (List Int)} {k:Nat} (hk:k<SS.length) (h:j2 n SS[k]=0):jC n (SS.drop k)=jC n (SS.drop (k+1)):=by rw [List.drop_eq_getElem_cons hk,jC,if_pos h]
theorem GK {n:Int} {SS:List (List Int)} {k:Nat} (hk:k<SS.length) (h:¬ j2 n SS[k]=0):jC n (SS.drop k)=j2 n SS[k]:=by rw [List.drop_eq_getElem_cons hk,jC,if_neg h]
theorem Nr {n:Int} {SS:List (List Int)} {k:Nat} (hk:k<SS.length) (h:lA n SS[k]=0):ku n (SS.drop k)=ku n (SS.drop (k+1)):=by rw [List.drop_eq_getElem_cons hk,ku,if_pos h]
theorem GL {n:Int} {SS:List (List Int)} {k:Nat} (hk:k<SS.length) (h:¬ lA n SS[k]=0):ku n (SS.drop k)=lA n SS[k]:=by rw [List.drop_eq_getElem_cons hk,ku,if_neg h]
theorem Ns {QS:List (List Nat)} (h:Rg.Rows W v (QS.map Ma.af)):Rg.mV W v QS:=h
def uz (c:gS):Int:=if cn (c.2.1.map nW) c.1.toNat c.1.toNat<=5040 then 0 else 5
noncomputable def gL (n:Int) (CS:List gS) (PS SS TS:List (List Int)) (c0:gS):Int :=
 if ks CS≠0 then ks CS else if Ma.dT PS≠0 then Ma.dT PS else if (CS.any fun c=>decide (c.1≠n))=true∨(PS.any fun x=>decide ((x.length:Int)≠n))=true then 10 else
 if jC n SS≠0 then jC n SS else if ku n TS≠0 then ku n TS else uz c0
theorem oh:∀ {CS:List gS},ks CS=0->∀ c∈CS,bn c.1 c.2.1 c.2.2=0
 | [],_,_,hc=>by simp at hc
 | c :: l,h,d,hd=>by
  rw [ks] at h
  by_cases e:bn c.1 c.2.1 c.2.2=0
  ·rw [if_pos e] at h
   rcases List.mem_cons.1 hd with rfl | hd
   ·exact e
   ·exact oh h d hd
  ·rw [if_neg e] at h; exact absurd h e
theorem v7:∀ {ll:List (List Int)},Ma.dT ll=0->∀ l∈ll,Ma.bB l=0
 | [],_,_,hc=>by simp at hc
 | c :: l,h,d,hd=>by
  rw [Ma.dT] at h
  by_cases e:Ma.bB c=0
  ·rw [if_pos e] at h
   rcases List.mem_cons.1 hd with rfl | hd
   ·exact e
   ·exact v7 h d hd
  ·rw [if_neg e] at h; exact absurd h e
theorem GN:∀ {PS:List (List Int)},(∀ l∈PS,Ma.bB l=0)->∃ QS:List (List Nat),PS=QS.map Ma.af
 | [],_=>⟨[],rfl⟩
 | x :: l,h=>by
  obtain ⟨QS,rfl⟩:=GN (fun z hz=>h z (List.mem_cons_of_mem _ hz));obtain ⟨q,rfl,_⟩:=Ma.lQ (Ma.jh (h x (List.mem_cons_self ..))).2.2;exact ⟨q :: QS,rfl⟩
theorem QH {QS:List (List Nat)} (h5:PS=QS.map Ma.af) (W:World) (a:Option Addr) (c:Nat) (h:Rg.Rows W (.slice a PS.length c) PS):Rg.mV W (.slice a PS.length c) QS:=by
 rw [h5] at h;have:=Ns h
 rwa [h5]
theorem aaq {CS:List gS} {c0:gS} {n:Int} {h1:0<CS.length} (h:CS[0]=c0) (hn:c0.1=n) (h0:ks CS=0) (_:1<=CS.length):bn n c0.2.1 c0.2.2=0:=by
 subst h hn;exact oh h0 _ (List.getElem_mem h1)
theorem QI {n:Int} (h0:bn n OO RR=0) (hn:n<=12) (h:aW w ov rv OO RR) :
  Calls Tryz.prog 106 #[.agg #[.int .i64 n,ov,rv]] w fun e w'=>e=.returned (.int .i64 (uz (n,OO,RR)))/\Below w.heap.size w w':=by
 obtain ⟨N,O,R,rfl,h1,h2,rfl,rfl,cQ,hH⟩:=fa h0;refine (DE hH h1 (by omega) cQ h).mono ?_;rintro e w' ⟨rfl,hb⟩;refine ⟨?_,hb⟩;unfold uz;simp only [kO,Int.toNat_natCast]
theorem uA {b cc:Nat} {CS:List gS} {GP GW G1:Value} {SS TS:List (List Int)} (hC:n_ b CS w) (h1:1<=CS.length) (lC:CS.length<=100) (hP:Rg.Rows w GP PS) (rX:PS.length<=100) (hS:Rg.Rows w GW SS) (kh:SS.length<=100) (iF:∀ s∈SS,s.length<=100) (hT:Rg.Rows w G1 TS) (C6:TS.length<=100) (v8:∀ s∈TS,s.length<=100) (hn:(CS[0]'(by omega)).1<=12) :
  Calls Tryz.prog 78 #[.agg #[.slice (some ⟨b,0,none⟩) CS.length cc,GP,GW,G1]] w fun e w'=>e=.returned (.int .i64 (gL (CS[0]'(by omega)).1 CS PS SS TS (CS[0]'(by omega))))/\Below w.heap.size w w':=by
 obtain ⟨pa,pc,rfl,-⟩:=hP.shape;obtain ⟨sa,sc,rfl,-⟩:=hS.shape;obtain ⟨ta,tc,rfl,-⟩:=hT.shape;obtain ⟨c0,eJ⟩:∃ c,Hid (CS[0]'(by omega)=c):=⟨_,U rfl⟩;rw [eJ.p] at hn ⊢;obtain ⟨n,s9⟩:∃ n,Hid (c0.1=n):=⟨_,U rfl⟩;rw [s9.p];obtain ⟨G,hG⟩:∃ z,Hid (gL n CS PS SS TS c0=z):=⟨_,U rfl⟩;rw [hG.p];have HN:=U hn;have HC:=U hC;have RP:=U (iR.mk hP);have b_:=U (iR.mk hS);have RT:=U (iR.mk hT);have om:=U iF;have xB:=U v8;have K:=U (Below.refl w.heap.size w);clear hC hP hS hT iF v8 hn
 go_enter Tryz.func78,Tryz.ntmps78
 go_upto_region 0 with (fail);refine c6 ?_;have aF:=DJ w (.slice (some ⟨b,0,none⟩) CS.length cc) (.slice pa PS.length pc) (.slice sa SS.length sc) (.slice ta TS.length tc) 73;refine d4 1 (Rg.aY _ _ rfl rfl) ?_;go_frame;have hb:=(Below.refl w.heap.size w).alloc (Nat.le_refl _) (.cells #[.slice (some ⟨b,0,none⟩) CS.length cc,.slice pa PS.length pc,.slice sa SS.length sc,.slice ta TS.length tc] 73);generalize w.alloc (.cells #[.slice (some ⟨b,0,none⟩) CS.length cc,.slice pa PS.length pc,.slice sa SS.length sc,.slice ta TS.length tc] 73)=w1 at *;replace HC:=U (HC.p.jj hb);replace RP:=U (RP.p.jj hb);replace b_:=U (b_.p.jj hb);replace RT:=U (RT.p.jj hb);replace K:=U (Rg.acc K.p hb);clear hb;have B0:=U aF.1;have B1:=U aF.2.1;have B2:=U aF.2.2.1;have B3:=U aF.2.2.2;clear aF;refine d6 2 (.int .i64 ((0:Nat):Int)) ?_;go_frame
 go_upto_region 1 with (fail);refine c6 ?_;refine d4 16 (ag _ rfl rfl (wW _ _)) ?_;go_frame;refine d4 17 (g9 (.slice (some ⟨b,0,none⟩) CS.length cc) ⟨w.heap.size,0,none⟩ (Rg.ae _ _ Tryz.underlying71 B0.p.cell)) ?_;go_frame;refine d4 18 (i4 Tryz.underlying71) ?_;go_frame;refine d5 19 (.int .i64 ((0:Nat):Int)) ?_;go_frame;have KL:=U (Below.refl w1.heap.size w1);have zB:=U (show ks (CS.drop 0)=ks CS from rfl);go_wp2
 go_loopw [19] (fun iv wr=>∃ k:Nat,iv=.int .i64 ((k:Nat):Int)/\k<=CS.length/\Hid (ks (CS.drop k)=ks CS)/\Hid (Below w1.heap.size w1 wr)) (fun iv _=>CS.length - (intOf iv).toNat)
 case atStart=>exact ⟨0,rfl,Nat.zero_le _,zB,KL⟩
 case round =>
  clear zB KL;obtain ⟨k,rfl,hk,HA,KL⟩:=hrel;generalize wr=wA at *;replace HC:=U (HC.p.jj KL.p);replace RP:=U (RP.p.jj KL.p);replace b_:=U (b_.p.jj KL.p);replace RT:=U (RT.p.jj KL.p);replace B0:=U (B0.p.jj KL.p);replace B1:=U (B1.p.jj KL.p);replace B2:=U (B2.p.jj KL.p);replace B3:=U (B3.p.jj KL.p)
  by_cases aB:k<CS.length
  case pos =>
   skip
   go_upto_region 2 with (fail);refine c6 ?_;refine d4 20 (i3 (.bool true) .lss (h:=bj _ f9)) ?_;go_frame;obtain ⟨oa,on,oc,ra,rn,rc,q0,q1,q2,q3⟩:=HC.p.at_ k aB;obtain ⟨m,hm⟩:∃ m,Hid (CS[k].1=m):=⟨_,U rfl⟩;rw [hm.p] at q0;have vZ:=kP q0 q1 q2;have CE:=U q3;clear q0 q1 q2 q3;go_upto_region 3 with (fail);refine c6 ?_;refine d4 21 (bD _ _ rfl Tryz.underlying71 od b (CS.length) (cc) (k) rfl rfl (by omega)) ?_;go_frame;refine d4 22 (Rg.fQ (v:=(.agg #[.int .i64 m,.slice oa on oc,.slice ra rn rc])) _ _ rfl ⟨b,k*3,none⟩ rfl vZ) ?_;go_frame;refine d4 4 (aU rfl) ?_;go_frame;refine Rg.aA none rfl rfl (Rg.ai _ _ _ rfl _ rfl _ rfl (aM _ _ _ _ _ _ _ (bM.new wA (.int .i64 0) (.slice none 0 0) (.slice none 0 0)))) ?_;go_frame;have eA:=(bM.new wA (.int .i64 0) (.slice none 0 0) (.slice none 0 0)).set (.int .i64 m) (.slice oa on oc) (.slice ra rn rc)
   have hb:=((((Below.refl wA.heap.size wA).alloc (Nat.le_refl _) (.cells #[.int .i64 0,.slice none 0 0,.slice none 0 0] 25)).setCell (p:=⟨wA.heap.size,0,none⟩) (Nat.le_refl _) (.int .i64 m)).setCell (p:=⟨wA.heap.size,1,none⟩) (Nat.le_refl _) (.slice oa on oc)).setCell (p:=⟨wA.heap.size,2,none⟩) (Nat.le_refl _) (.slice ra rn rc);generalize (((wA.alloc (.cells #[.int .i64 0,.slice none 0 0,.slice none 0 0] 25)).setCell ⟨wA.heap.size,0,none⟩ (.int .i64 m)).setCell ⟨wA.heap.size,1,none⟩ (.slice oa on oc)).setCell ⟨wA.heap.size,2,none⟩ (.slice ra rn rc)=ru at *;replace HC:=U (HC.p.jj hb);replace RP:=U (RP.p.jj hb);replace b_:=U (b_.p.jj hb);replace RT:=U (RT.p.jj hb);replace B0:=U (B0.p.jj hb);replace B1:=U (B1.p.jj hb);replace B2:=U (B2.p.jj hb);replace B3:=U (B3.p.jj hb);replace CE:=U (CE.p.jj hb);replace KL:=U (Rg.acc KL.p hb)
   clear hb;have TC:=U eA;clear eA;clear vZ;obtain ⟨ck,dY⟩:∃ c,Hid (bn m CS[k].2.1 CS[k].2.2=c):=⟨_,U rfl⟩;go_upto_region 4 with (fail);refine c6 ?_;refine d4 23 (g9 ((.agg #[.int .i64 m,.slice oa on oc,.slice ra rn rc])) ⟨wA.heap.size,0,none⟩ (aq TC.p.c0 TC.p.c1 TC.p.c2)) ?_;go_frame;refine f8 24 (aE 73 _ _ rfl rfl (vO _ _)) ?_;refine (km CE.p).mono ?_;rintro e1 w13 ⟨rfl,hb⟩;rw [dY.p];refine ⟨_,rfl,?_⟩;go_frame;replace HC:=U (HC.p.jj hb);replace RP:=U (RP.p.jj hb);replace b_:=U (b_.p.jj hb);replace RT:=U (RT.p.jj hb);replace B0:=U (B0.p.jj hb);replace B1:=U (B1.p.jj hb);replace B2:=U (B2.p.jj hb);replace B3:=U (B3.p.jj hb);replace CE:=U (CE.p.jj hb);replace TC:=U (TC.p.jj hb);replace KL:=U (Rg.acc KL.p hb);clear hb;refine d6 5 (.int .i64 ck) ?_;go_frame
   have ui:=U (show bn CS[k].1 CS[k].2.1 CS[k].2.2=ck by rw [hm.p]; exact dY.p)
   by_cases hz:ck=0
   case neg =>
    have HX:=U (show ck=G by
     rw [<- hG.p];unfold gL
     have e1:ks CS=ck:=by rw [<- HA.p,QG aB (by rw [ui.p]; exact hz),ui.p]
     rw [if_pos (by rw [e1]; exact hz),e1])
    go_upto_region 5 with (fail);refine c6 ?_;refine d5 25 (.int .i64 ck) ?_;go_frame;refine d4 26 (i3 (.bool true) .neq (h:=aQ _ (decide_eq_true hz))) ?_;go_frame;go_upto_region 6 with (fail);refine c6 ?_;refine d5 27 (.int .i64 ck) ?_;go_frame;refine d6 2 (.int .i64 ck) ?_;go_frame;go_wp2;go_ret;exact ⟨by rw [<- HX.p]; rfl,K.p.trans (KL.p.mono K.p.size)⟩
   case pos =>
    subst hz;have oH:=U ((Np aB ui.p).symm.trans HA.p);go_upto_region 5 with (fail);refine c6 ?_;refine d5 25 (.int .i64 0) ?_;go_frame;refine d4 26 (i3 (.bool false) .neq (h:=aQ _ g7)) ?_;go_frame;go_upto_region 7 with (fail);refine c6 ?_;refine d4 28 (i3 (.int .i64 (((k+1):Nat):Int)) .add (h:=cg _ (by omega) (by omega))) ?_;go_frame;refine d5 19 (.int .i64 (((k+1):Nat):Int)) ?_;go_frame;clear HA CE TC ui dY;go_wp2
    go_roundw
    case rel=>exact ⟨k+1,by go_num,aB,oH,KL⟩
    case measure=>simp [intOf]; omega
  obtain rfl:k=CS.length:=by omega
  have tS:=U (show ks CS=0 by rw [<- HA.p,List.drop_length]; rfl);replace K:=U (K.p.trans (KL.p.mono K.p.size));clear HA KL;go_upto_region 2 with (fail);refine c6 ?_;refine d4 20 (i3 (.bool false) .lss (h:=bj _ g7)) ?_;go_frame;go_upto_region 8 with (fail);refine c6 ?_;refine d4 29 (ag _ rfl rfl (QF _ _)) ?_;go_frame;refine d4 30 (g9 (.slice pa PS.length pc) ⟨w.heap.size,1,none⟩ (Rg.ae _ _ Tryz.underlying41 B1.p.cell)) ?_;go_frame;refine d4 31 (i4 Tryz.underlying41) ?_;go_frame;refine d5 32 (.int .i64 ((0:Nat):Int)) ?_;go_frame;have KL:=U (Below.refl wA.heap.size wA);have zB:=U (show Ma.dT (PS.drop 0)=Ma.dT PS from rfl);go_wp2
  go_loopw [32] (fun iv wr=>∃ k:Nat,iv=.int .i64 ((k:Nat):Int)/\k<=PS.length/\Hid (Ma.dT (PS.drop k)=Ma.dT PS)/\Hid (Below wA.heap.size wA wr)) (fun iv _=>PS.length - (intOf iv).toNat)
  case atStart=>exact ⟨0,rfl,Nat.zero_le _,zB,KL⟩
  case round =>
   clear zB KL;obtain ⟨k,rfl,hk,HA,KL⟩:=hrel;generalize wr=wB at *;replace HC:=U (HC.p.jj KL.p);replace RP:=U (RP.p.jj KL.p);replace b_:=U (b_.p.jj KL.p);replace RT:=U (RT.p.jj KL.p);replace B0:=U (B0.p.jj KL.p);replace B1:=U (B1.p.jj KL.p);replace B2:=U (B2.p.jj KL.p);replace B3:=U (B3.p.jj KL.p)
   by_cases aB:k<PS.length
   case pos =>
    obtain ⟨lb,lo,_,_,e1,cZ,cF,dg⟩:=jy RP.p.r (i:=k) aB;subst e1;obtain ⟨pm,xa,xc,nh,gG,-⟩:=dg.len;rw [gG] at cF dg;have CX:=U (CL.mk cF cZ);have NX:=U (dm.mk dg);obtain ⟨ck,dY⟩:∃ c,Hid (Ma.bB PS[k]=c):=⟨_,U rfl⟩;clear cZ cF dg nh gG;go_upto_region 9 with (fail);refine c6 ?_;refine d4 33 (i3 (.bool true) .lss (h:=bj _ f9)) ?_;go_frame;go_upto_region 10 with (fail);refine c6 ?_;refine d4 34 (aD cp _ _ rfl lb (lo) (PS.length) pc (k) rfl rfl (by omega)) ?_;go_frame;refine d4 35 (g9 (.slice xa pm xc) ⟨lb,lo+k,none⟩ (Rg.ae _ _ Tryz.underlying27 CX.p.cell)) ?_;go_frame;refine d6 7 (.slice xa pm xc) ?_;go_frame;go_upto_region 11 with (fail);refine c6 ?_;refine d5 36 (.slice xa pm xc) ?_;go_frame;refine f8 37 (aE 68 _ _ rfl rfl (yO _ _)) ?_;refine (dQ _ _ wB NX.p.i).mono ?_
    rintro e1 iB ⟨rfl,hb⟩;rw [dY.p];refine ⟨_,rfl,?_⟩;go_frame;replace HC:=U (HC.p.jj hb);replace RP:=U (RP.p.jj hb);replace b_:=U (b_.p.jj hb);replace RT:=U (RT.p.jj hb);replace B0:=U (B0.p.jj hb);replace B1:=U (B1.p.jj hb);replace B2:=U (B2.p.jj hb);replace B3:=U (B3.p.jj hb);replace CX:=U (CX.p.jj hb);replace NX:=U (NX.p.jj hb);replace KL:=U (Rg.acc KL.p hb);clear hb;refine d6 8 (.int .i64 ck) ?_;go_frame
    by_cases hz:ck=0
    case neg =>
     have HX:=U (show ck=G by
      rw [<- hG.p];unfold gL
      have e1:Ma.dT PS=ck:=by rw [<- HA.p,Ma.Ba aB (by rw [dY.p]; exact hz),dY.p]
      rw [if_neg (fun h=>h tS.p),if_pos (by rw [e1]; exact hz),e1])
     go_upto_region 12 with (fail);refine c6 ?_;refine d5 38 (.int .i64 ck) ?_;go_frame;refine d4 39 (i3 (.bool true) .neq (h:=aQ _ (decide_eq_true hz))) ?_;go_frame;go_upto_region 13 with (fail);refine c6 ?_;refine d5 40 (.int .i64 ck) ?_;go_frame;refine d6 2 (.int .i64 ck) ?_;go_frame;go_wp2;go_ret;exact ⟨by rw [<- HX.p]; rfl,K.p.trans (KL.p.mono K.p.size)⟩
    case pos =>
     subst hz;have oH:=U ((Ma.xU aB dY.p).symm.trans HA.p);go_upto_region 12 with (fail);refine c6 ?_;refine d5 38 (.int .i64 0) ?_;go_frame;refine d4 39 (i3 (.bool false) .neq (h:=aQ _ g7)) ?_;go_frame;go_upto_region 14 with (fail);refine c6 ?_;refine d4 41 (i3 (.int .i64 (((k+1):Nat):Int)) .add (h:=cg _ (by omega) (by omega))) ?_;go_frame;refine d5 32 (.int .i64 (((k+1):Nat):Int)) ?_;go_frame;clear HA CX NX dY;go_wp2
     go_roundw
     case rel=>exact ⟨k+1,by go_num,aB,oH,KL⟩
     case measure=>simp [intOf]; omega
   obtain rfl:k=PS.length:=by omega
   have G2:=U (show Ma.dT PS=0 by rw [<- HA.p,List.drop_length]; rfl);replace K:=U (K.p.trans (KL.p.mono K.p.size));clear HA KL;obtain ⟨oa,on,oc,ra,rn,rc,q0,q1,q2,q3⟩:=HC.p.at_ 0 h1;have CN:=U (show CL wB b (0*3) (.int .i64 n) from CL.mk (by rw [q0,eJ.p,s9.p]) HC.p.lt);clear q0 q1 q2 q3;go_upto_region 9 with (fail);refine c6 ?_;refine d4 33 (i3 (.bool false) .lss (h:=bj _ g7)) ?_;go_frame;go_upto_region 15 with (fail);refine c6 ?_;refine d4 42 (ag _ rfl rfl (wW _ _)) ?_;go_frame;refine d4 43 (g9 (.slice (some ⟨b,0,none⟩) CS.length cc) ⟨w.heap.size,0,none⟩ (Rg.ae _ _ Tryz.underlying71 B0.p.cell)) ?_;go_frame;refine d4 44 (bD _ _ rfl Tryz.underlying71 od b (CS.length) (cc) (0) rfl rfl h1) ?_;go_frame;refine d4 45 (ag _ rfl rfl (fF _ _)) ?_;go_frame;refine d4 46 (g9 (.int .i64 n) ⟨b,0,none⟩ (ah CN.p.cell)) ?_;go_frame
   refine d4 9 (oO rfl) ?_;go_frame;refine Rg.aA none rfl rfl (Rg.ai _ _ _ rfl _ rfl _ rfl (cy n (CW.new wB (.int .i64 0) 3).c (CW.new wB (.int .i64 0) 3).f)) ?_;go_frame;have eA:=(CW.new wB (.int .i64 0) 3).set (.int .i64 n);have hb:=((Below.refl wB.heap.size wB).alloc (Nat.le_refl _) (.cells #[.int .i64 0] 3)).setCell (p:=⟨wB.heap.size,0,none⟩) (Nat.le_refl _) (.int .i64 n);generalize (wB.alloc (.cells #[.int .i64 0] 3)).setCell ⟨wB.heap.size,0,none⟩ (.int .i64 n)=vF at *;replace HC:=U (HC.p.jj hb);replace RP:=U (RP.p.jj hb);replace b_:=U (b_.p.jj hb);replace RT:=U (RT.p.jj hb);replace B0:=U (B0.p.jj hb);replace B1:=U (B1.p.jj hb);replace B2:=U (B2.p.jj hb);replace B3:=U (B3.p.jj hb);replace CN:=U (CN.p.jj hb);replace K:=U (Rg.acc K.p hb);clear hb;have BN:=U eA;clear eA
   clear CN;obtain ⟨bt,DK⟩:∃ t,Hid ((CS.any fun c=>decide (c.1≠n))=t):=⟨_,U rfl⟩;obtain ⟨QS,hQS⟩:=GN (v7 G2.p);have QJ:=U hQS;clear hQS;obtain ⟨bp,Iv⟩:∃ t,Hid ((QS.any fun x=>decide ((x.length:Int)≠n))=t):=⟨_,U rfl⟩;have Xo:=U (show (PS.any fun x=>decide ((x.length:Int)≠n))=bp by rw [QJ.p,List.any_map,<- Iv.p]; congr 1; funext x; simp [Ma.az])
   cases bt
   case true =>
    have HX:=U (show (10:Int)=G by
     rw [<- hG.p];unfold gL
     rw [if_neg (fun h=>h tS.p),if_neg (fun h=>h G2.p),if_pos (.inl DK.p)])
    go_upto_region 16 with (fail);refine c6 ?_;refine d4 47 (ag _ rfl rfl (wW _ _)) ?_;go_frame;refine d4 48 (g9 (.slice (some ⟨b,0,none⟩) CS.length cc) ⟨w.heap.size,0,none⟩ (Rg.ae _ _ Tryz.underlying71 B0.p.cell)) ?_;go_frame;refine d4 49 (eI (v:=.pointer (some ⟨wB.heap.size,0,none⟩)) _ _ rfl rfl) ?_;go_frame;refine f8 50 (aj 100 _ _ _ rfl rfl rfl (JN _ _)) ?_;refine (mh n b cc wB.heap.size CS vF HC.p BN.p.c BN.p.lt (by omega)).mono ?_;rintro e1 w63 ⟨rfl,hb⟩;rw [DK.p];refine ⟨_,rfl,?_⟩;go_frame;replace HC:=U (HC.p.jj hb);replace RP:=U (RP.p.jj hb);replace b_:=U (b_.p.jj hb);replace RT:=U (RT.p.jj hb);replace B0:=U (B0.p.jj hb);replace B1:=U (B1.p.jj hb);replace B2:=U (B2.p.jj hb);replace B3:=U (B3.p.jj hb);replace BN:=U (BN.p.jj hb);replace K:=U (Rg.acc K.p hb)
    clear hb;refine d5 51 (.bool true) ?_;go_frame;refine g8 52 ?_;go_frame;refine g8 53 ?_;go_frame;refine g8 54 ?_;go_frame;refine g8 55 ?_;go_frame;refine d4 56 (i6 (.bool true)) ?_;go_frame;go_upto_region 17 with (fail);refine c6 ?_;refine d6 2 (.int .i64 ((10:Nat):Int)) ?_;go_frame;go_wp2;go_ret;exact ⟨by rw [<- HX.p]; rfl,K.p⟩
   case false =>
    skip
    have OP:=U (QH QJ.p)
    cases bp
    case true =>
     skip
     go_upto_region 16 with (fail);refine c6 ?_;refine d4 47 (ag _ rfl rfl (wW _ _)) ?_;go_frame;refine d4 48 (g9 (.slice (some ⟨b,0,none⟩) CS.length cc) ⟨w.heap.size,0,none⟩ (Rg.ae _ _ Tryz.underlying71 B0.p.cell)) ?_;go_frame;refine d4 49 (eI (v:=.pointer (some ⟨wB.heap.size,0,none⟩)) _ _ rfl rfl) ?_;go_frame;refine f8 50 (aj 100 _ _ _ rfl rfl rfl (JN _ _)) ?_;refine (mh n b cc wB.heap.size CS vF HC.p BN.p.c BN.p.lt (by omega)).mono ?_;rintro e1 w73 ⟨rfl,hb⟩;rw [DK.p];refine ⟨_,rfl,?_⟩;go_frame;replace HC:=U (HC.p.jj hb);replace RP:=U (RP.p.jj hb);replace b_:=U (b_.p.jj hb);replace RT:=U (RT.p.jj hb);replace B0:=U (B0.p.jj hb);replace B1:=U (B1.p.jj hb);replace B2:=U (B2.p.jj hb);replace B3:=U (B3.p.jj hb);replace BN:=U (BN.p.jj hb);replace K:=U (Rg.acc K.p hb)
     clear hb;refine d5 51 (.bool false) ?_;go_frame;refine d9 52 (ag _ rfl rfl (QF _ _)) ?_;go_frame;refine d9 53 (g9 (.slice pa PS.length pc) ⟨w.heap.size,1,none⟩ (Rg.ae _ _ Tryz.underlying41 B1.p.cell)) ?_;go_frame;refine d9 54 (eI (v:=.pointer (some ⟨wB.heap.size,0,none⟩)) _ _ rfl rfl) ?_;go_frame;refine a_ (some 55) rfl rfl _ _ (aj 102 _ _ _ rfl rfl rfl (QE _ _)) ?_;refine (mF _ QS _ _ (fun x=>decide ((x.length:Int)≠n)) w73 (OP.p _ _ _ RP.p.r) (by have h5:=congrArg List.length QJ.p; rw [List.length_map] at h5; omega) (fun _ _=>by kernel_rfl) (fun x _ w1 u hb hu=>(BQ n u (Ma.af x) wB.heap.size w1 ((hb.cell (p:=⟨wB.heap.size,0,none⟩) (BN.p).lt).trans (BN.p).c) (Nat.lt_of_lt_of_le (BN.p).lt hb.size) hu).mono fun e w2 h=>⟨by rw [h.1,Ma.az],h.2⟩)).mono ?_;rintro e1 w74 ⟨rfl,hb⟩
     rw [Iv.p];refine ⟨_,rfl,?_⟩;go_frame;replace HC:=U (HC.p.jj hb);replace RP:=U (RP.p.jj hb);replace b_:=U (b_.p.jj hb);replace RT:=U (RT.p.jj hb);replace B0:=U (B0.p.jj hb);replace B1:=U (B1.p.jj hb);replace B2:=U (B2.p.jj hb);replace B3:=U (B3.p.jj hb);replace BN:=U (BN.p.jj hb);replace K:=U (Rg.acc K.p hb);clear hb;refine d4 56 (i5 (.bool true)) ?_;go_frame
     have HX:=U (show (10:Int)=G by
      rw [<- hG.p];unfold gL
      rw [if_neg (fun h=>h tS.p),if_neg (fun h=>h G2.p),if_pos (.inr Xo.p)])
     go_upto_region 17 with (fail);refine c6 ?_;refine d6 2 (.int .i64 ((10:Nat):Int)) ?_;go_frame;go_wp2;go_ret;exact ⟨by rw [<- HX.p]; rfl,K.p⟩
    case false =>
     skip
     go_upto_region 16 with (fail);refine c6 ?_;refine d4 47 (ag _ rfl rfl (wW _ _)) ?_;go_frame;refine d4 48 (g9 (.slice (some ⟨b,0,none⟩) CS.length cc) ⟨w.heap.size,0,none⟩ (Rg.ae _ _ Tryz.underlying71 B0.p.cell)) ?_;go_frame;refine d4 49 (eI (v:=.pointer (some ⟨wB.heap.size,0,none⟩)) _ _ rfl rfl) ?_;go_frame;refine f8 50 (aj 100 _ _ _ rfl rfl rfl (JN _ _)) ?_;refine (mh n b cc wB.heap.size CS vF HC.p BN.p.c BN.p.lt (by omega)).mono ?_;rintro e1 w83 ⟨rfl,hb⟩;rw [DK.p];refine ⟨_,rfl,?_⟩;go_frame;replace HC:=U (HC.p.jj hb);replace RP:=U (RP.p.jj hb);replace b_:=U (b_.p.jj hb);replace RT:=U (RT.p.jj hb);replace B0:=U (B0.p.jj hb);replace B1:=U (B1.p.jj hb);replace B2:=U (B2.p.jj hb);replace B3:=U (B3.p.jj hb);replace BN:=U (BN.p.jj hb);replace K:=U (Rg.acc K.p hb)
     clear hb;refine d5 51 (.bool false) ?_;go_frame;refine d9 52 (ag _ rfl rfl (QF _ _)) ?_;go_frame;refine d9 53 (g9 (.slice pa PS.length pc) ⟨w.heap.size,1,none⟩ (Rg.ae _ _ Tryz.underlying41 B1.p.cell)) ?_;go_frame;refine d9 54 (eI (v:=.pointer (some ⟨wB.heap.size,0,none⟩)) _ _ rfl rfl) ?_;go_frame;refine a_ (some 55) rfl rfl _ _ (aj 102 _ _ _ rfl rfl rfl (QE _ _)) ?_;refine (mF _ QS _ _ (fun x=>decide ((x.length:Int)≠n)) w83 (OP.p _ _ _ RP.p.r) (by have h5:=congrArg List.length QJ.p; rw [List.length_map] at h5; omega) (fun _ _=>by kernel_rfl) (fun x _ w1 u hb hu=>(BQ n u (Ma.af x) wB.heap.size w1 ((hb.cell (p:=⟨wB.heap.size,0,none⟩) (BN.p).lt).trans (BN.p).c) (Nat.lt_of_lt_of_le (BN.p).lt hb.size) hu).mono fun e w2 h=>⟨by rw [h.1,Ma.az],h.2⟩)).mono ?_;rintro e1 TQ ⟨rfl,hb⟩
     rw [Iv.p];refine ⟨_,rfl,?_⟩;go_frame;replace HC:=U (HC.p.jj hb);replace RP:=U (RP.p.jj hb);replace b_:=U (b_.p.jj hb);replace RT:=U (RT.p.jj hb);replace B0:=U (B0.p.jj hb);replace B1:=U (B1.p.jj hb);replace B2:=U (B2.p.jj hb);replace B3:=U (B3.p.jj hb);replace BN:=U (BN.p.jj hb);replace K:=U (Rg.acc K.p hb);clear hb;refine d4 56 (i5 (.bool false)) ?_;go_frame
     have v_:=U (show ¬ ((CS.any fun c=>decide (c.1≠n))=true∨(PS.any fun x=>decide ((x.length:Int)≠n))=true) from fun h=>by
      rcases h with h | h
      ·rw [DK.p] at h; cases h
      ·rw [Xo.p] at h; cases h)
     clear DK Xo Iv QJ OP;go_upto_region 18 with (fail);refine c6 ?_;refine d4 57 (eI (v:=.pointer (some ⟨wB.heap.size,0,none⟩)) _ _ rfl rfl) ?_;go_frame;refine d6 10 ((.func (.func 104) #[] #[.pointer (some ⟨wB.heap.size,0,none⟩)])) ?_;go_frame;go_upto_region 19 with (fail);refine c6 ?_;refine d4 58 (ag _ rfl rfl (aao _ _)) ?_;go_frame;refine d4 59 (g9 (.slice sa SS.length sc) ⟨w.heap.size,2,none⟩ (Rg.ae _ _ Tryz.underlying22 B2.p.cell)) ?_;go_frame;refine d4 60 (i4 Tryz.underlying22) ?_;go_frame;refine d5 61 (.int .i64 ((0:Nat):Int)) ?_;go_frame;have KL:=U (Below.refl TQ.heap.size TQ);have zB:=U (show jC n (SS.drop 0)=jC n SS from rfl);go_wp2
     go_loopw [61] (fun iv wr=>∃ k:Nat,iv=.int .i64 ((k:Nat):Int)/\k<=SS.length/\Hid (jC n (SS.drop k)=jC n SS)/\Hid (Below TQ.heap.size TQ wr)) (fun iv _=>SS.length - (intOf iv).toNat)
     case atStart=>exact ⟨0,rfl,Nat.zero_le _,zB,KL⟩
     case round =>
      clear zB KL;obtain ⟨k,rfl,hk,HA,KL⟩:=hrel;generalize wr=wC at *;replace HC:=U (HC.p.jj KL.p);replace RP:=U (RP.p.jj KL.p);replace b_:=U (b_.p.jj KL.p);replace RT:=U (RT.p.jj KL.p);replace B0:=U (B0.p.jj KL.p);replace B1:=U (B1.p.jj KL.p);replace B2:=U (B2.p.jj KL.p);replace B3:=U (B3.p.jj KL.p);replace BN:=U (BN.p.jj KL.p)
      by_cases aB:k<SS.length
      case pos =>
       obtain ⟨lb,lo,_,_,e1,cZ,cF,dg⟩:=jy b_.p.r (i:=k) aB;subst e1;obtain ⟨s,hs⟩:∃ s,Hid (SS[k]=s):=⟨_,U rfl⟩;rw [hs.p] at cF dg;have rC:=U (show s.length<=100 from hs.p▸om.p _ (List.getElem_mem aB));obtain ⟨pm,xa,xc,nh,gG,-⟩:=dg.len;rw [gG,<- nh] at cF dg;clear nh gG;have CX:=U (CL.mk cF cZ);have NX:=U (dm.mk dg);clear cZ cF dg;have mC:s.length<=100:=rC.p;obtain ⟨bo,AX⟩:∃ t,Hid (s.any (i_ n)=t):=⟨_,U rfl⟩;go_upto_region 20 with (fail);refine c6 ?_;refine d4 62 (i3 (.bool true) .lss (h:=bj _ f9)) ?_;go_frame;go_upto_region 21 with (fail);refine c6 ?_;refine d4 63 (aD ef _ _ rfl lb (lo) (SS.length) sc (k) rfl rfl (by omega)) ?_;go_frame;refine d4 64 (g9 (.slice xa s.length xc) ⟨lb,lo+k,none⟩ (Rg.ae _ _ Tryz.underlying26 CX.p.cell)) ?_;go_frame
       refine d6 12 (.slice xa s.length xc) ?_;go_frame
       cases bo
       case true =>
        skip
        go_upto_region 22 with (fail);refine c6 ?_;refine d5 65 (.slice xa s.length xc) ?_;go_frame;refine d5 66 ((.func (.func 104) #[] #[.pointer (some ⟨wB.heap.size,0,none⟩)])) ?_;go_frame;refine f8 67 (aj 105 _ _ _ rfl rfl rfl (DL _ _)) ?_;refine (fY _ s _ _ (i_ n) wC NX.p.i (by omega) (fun _ _=>by kernel_rfl) (fun x _ w1 hb=>by exact qZ n x wB.heap.size w1 ((hb.cell (p:=⟨wB.heap.size,0,none⟩) (BN.p).lt).trans (BN.p).c) (Nat.lt_of_lt_of_le (BN.p).lt hb.size))).mono ?_;rintro e1 w95 ⟨rfl,hb⟩;rw [AX.p];refine ⟨_,rfl,?_⟩;go_frame;replace HC:=U (HC.p.jj hb);replace RP:=U (RP.p.jj hb);replace b_:=U (b_.p.jj hb);replace RT:=U (RT.p.jj hb);replace B0:=U (B0.p.jj hb);replace B1:=U (B1.p.jj hb);replace B2:=U (B2.p.jj hb);replace B3:=U (B3.p.jj hb);replace BN:=U (BN.p.jj hb)
        replace CX:=U (CX.p.jj hb);replace NX:=U (NX.p.jj hb);replace KL:=U (Rg.acc KL.p hb);clear hb
        have HX:=U (show (2:Int)=G by
         have e0:j2 n SS[k]=2:=by unfold j2; rw [hs.p,if_pos AX.p]
         have e1:jC n SS=2:=by rw [<- HA.p,GK aB (by rw [e0]; decide),e0]
         rw [<- hG.p];unfold gL
         rw [if_neg (fun h=>h tS.p),if_neg (fun h=>h G2.p),if_neg v_.p,if_pos (by rw [e1]; decide),e1])
        go_upto_region 23 with (fail);refine c6 ?_;refine d6 2 (.int .i64 ((2:Nat):Int)) ?_;go_frame;go_wp2;go_ret;exact ⟨by rw [<- HX.p]; rfl,K.p.trans (KL.p.mono K.p.size)⟩
       case false =>
        skip
        go_upto_region 22 with (fail);refine c6 ?_;refine d5 65 (.slice xa s.length xc) ?_;go_frame;refine d5 66 ((.func (.func 104) #[] #[.pointer (some ⟨wB.heap.size,0,none⟩)])) ?_;go_frame;refine f8 67 (aj 105 _ _ _ rfl rfl rfl (DL _ _)) ?_;refine (fY _ s _ _ (i_ n) wC NX.p.i (by omega) (fun _ _=>by kernel_rfl) (fun x _ w1 hb=>by exact qZ n x wB.heap.size w1 ((hb.cell (p:=⟨wB.heap.size,0,none⟩) (BN.p).lt).trans (BN.p).c) (Nat.lt_of_lt_of_le (BN.p).lt hb.size))).mono ?_;rintro e1 Li ⟨rfl,hb⟩;rw [AX.p];refine ⟨_,rfl,?_⟩;go_frame;replace HC:=U (HC.p.jj hb);replace RP:=U (RP.p.jj hb);replace b_:=U (b_.p.jj hb);replace RT:=U (RT.p.jj hb);replace B0:=U (B0.p.jj hb);replace B1:=U (B1.p.jj hb);replace B2:=U (B2.p.jj hb);replace B3:=U (B3.p.jj hb);replace BN:=U (BN.p.jj hb)
        replace CX:=U (CX.p.jj hb);replace NX:=U (NX.p.jj hb);replace KL:=U (Rg.acc KL.p hb);clear hb;go_upto_region 24 with (fail);refine c6 ?_;refine d5 68 (.slice xa s.length xc) ?_;go_frame;refine d4 69 (i4 Tryz.underlying26) ?_;go_frame;refine d5 70 (.int .i64 ((0:Nat):Int)) ?_;go_frame;have KI:=U (Below.refl Li.heap.size Li);have HI0:=U (show ∀ i (h:i<s.length),i<0->1<=i->s[i - 1]'(by omega)<s[i] from fun i h h0=>absurd h0 (Nat.not_lt_zero _));go_wp2
        go_loopw [70] (fun iv wr=>∃ j:Nat,iv=.int .i64 ((j:Nat):Int)/\j<=s.length/\Hid (∀ i (h:i<s.length),i<j->1<=i->s[i - 1]'(by omega)<s[i])/\Hid (Below Li.heap.size Li wr)) (fun iv _=>s.length - (intOf iv).toNat)
        case atStart=>exact ⟨0,rfl,Nat.zero_le _,HI0,KI⟩
        case round =>
         clear HI0 KI;obtain ⟨j,rfl,hj,HI,KI⟩:=hrel;generalize wr=wD at *;replace HC:=U (HC.p.jj KI.p);replace RP:=U (RP.p.jj KI.p);replace b_:=U (b_.p.jj KI.p);replace RT:=U (RT.p.jj KI.p);replace B0:=U (B0.p.jj KI.p);replace B1:=U (B1.p.jj KI.p);replace B2:=U (B2.p.jj KI.p);replace B3:=U (B3.p.jj KI.p);replace BN:=U (BN.p.jj KI.p);replace CX:=U (CX.p.jj KI.p);replace NX:=U (NX.p.jj KI.p);have Xp:=U (Rg.acc KL.p KI.p)
         by_cases rz:j<s.length
         case pos =>
          go_upto_region 25 with (fail);refine c6 ?_;refine d4 71 (i3 (.bool true) .lss (h:=bj _ f9)) ?_;go_frame;go_upto_region 26 with (fail);refine c6 ?_;refine d5 72 (.int .i64 ((j:Nat):Int)) ?_;go_frame;refine d6 13 (.int .i64 ((j:Nat):Int)) ?_;go_frame
          by_cases Zt:0<j
          case neg =>
           obtain rfl:j=0:=by omega
           go_upto_region 27 with (fail);have aw:Below wD.heap.size wD wD.drew:=(Below.refl _ _).drew;replace HC:=U (HC.p.jj aw);replace RP:=U (RP.p.jj aw);replace b_:=U (b_.p.jj aw);replace RT:=U (RT.p.jj aw);replace B0:=U (B0.p.jj aw);replace B1:=U (B1.p.jj aw);replace B2:=U (B2.p.jj aw);replace B3:=U (B3.p.jj aw);replace BN:=U (BN.p.jj aw);replace CX:=U (CX.p.jj aw);replace NX:=U (NX.p.jj aw);replace KI:=U (Rg.acc KI.p aw);clear aw;refine Rg.Any.begin (S:=Rg.aI 13 (fun _=>True) (fun W=>Below wD.drew.heap.size wD.drew W)) mix ?_;generalize wD.drew=zC at *;have hS:∀ (l:Array Bool) W,Below zC.heap.size zC W->Rg.aI 13 (fun _=>True) (fun W=>Below zC.heap.size zC W) l W:=fun l W h=>⟨.inr trivial,h⟩;have hI:Below zC.heap.size zC zC:=Below.refl _ _
           refine d8 0 13 (.int .i64 ((0:Nat):Int)) 73 (hS _ _ hI) ?_;go_frame;refine d7 1 13 (.bool false) 74 rfl rfl (.inl ⟨rfl,fun w _=>bN (R:=.bool false) .gtr _ _ _ rfl rfl rfl (fD _ g7)⟩) (hS _ _ hI) ?_;go_frame;refine d8 2 13 (.bool false) 75 (hS _ _ hI) ?_;go_frame;refine d7 3 13 (undef) 76 rfl rfl (.inr ⟨rfl,rfl⟩) (hS _ _ hI) ?_;go_frame;refine d7 4 13 (undef) 77 rfl rfl (.inr ⟨rfl,rfl⟩) (hS _ _ hI) ?_;go_frame;refine d7 5 13 (undef) 78 rfl rfl (.inr ⟨rfl,rfl⟩) (hS _ _ hI) ?_;go_frame;refine d7 6 13 (undef) 79 rfl rfl (.inr ⟨rfl,rfl⟩) (hS _ _ hI) ?_;go_frame;refine d7 7 13 (undef) 80 rfl rfl (.inr ⟨rfl,rfl⟩) (hS _ _ hI) ?_;go_frame;refine d7 8 13 (undef) 81 rfl rfl (.inr ⟨rfl,rfl⟩) (hS _ _ hI) ?_;go_frame;refine d7 9 13 (undef) 82 rfl rfl (.inr ⟨rfl,rfl⟩) (hS _ _ hI) ?_;go_frame;refine d7 10 13 (undef) 83 rfl rfl (.inr ⟨rfl,rfl⟩) (hS _ _ hI) ?_;go_frame
           refine d7 11 13 (undef) 84 rfl rfl (.inr ⟨rfl,rfl⟩) (hS _ _ hI) ?_;go_frame;refine d7 12 13 (undef) 85 rfl rfl (.inr ⟨rfl,rfl⟩) (hS _ _ hI) ?_;go_frame;refine i9 13 86 rfl rfl (i5 (.bool false)) (hS _ _ hI) ?_;go_frame;refine Rg.Any.done (by kernel_rfl) ?_ _;clear hS hI;go_upto_region 29 with (fail);refine c6 ?_;refine d4 87 (i3 (.int .i64 (((0+1):Nat):Int)) .add (h:=cg _ (by omega) (by omega))) ?_;go_frame;refine d5 70 (.int .i64 (((0+1):Nat):Int)) ?_;go_frame;have OG:=U (show ∀ i (h:i<s.length),i<0+1->1<=i->s[i - 1]'(by omega)<s[i] from fun i h h0 h1=>by omega);clear HI Xp;go_wp2
           go_roundw
           case rel=>exact ⟨0+1,by go_num,rz,OG,KI⟩
           case measure=>simp [intOf]; omega
          case pos =>
           obtain ⟨oq,mD,e1,eB,d_⟩:=BD NX.p.i rz;subst e1;obtain ⟨lb3,lo3,e1,Dx,Ni⟩:=BD NX.p.i (k:=j - 1) (by omega);simp only [Option.some.injEq,Addr.mk.injEq,and_true] at e1;obtain ⟨rfl,rfl⟩:=e1;obtain ⟨x,hx⟩:∃ x,Hid (s[j]=x):=⟨_,U rfl⟩;obtain ⟨y,hy⟩:∃ y,Hid (s[j - 1]'(by omega)=y):=⟨_,U rfl⟩;rw [hx.p] at d_;rw [hy.p] at Ni;have C2:=U (CL.mk d_ eB);have C3:=U (CL.mk Ni Dx);have pK:=U (show j - 1<s.length by omega);clear eB d_ Dx Ni
           by_cases Jy:x<=y
           case pos =>
            have HX:=U (show (9:Int)=G by
             have hna:¬ pz s:=fun h=>by
              have:=h j rz Zt;rw [hx.p,hy.p] at this;omega
             have e0:j2 n SS[k]=9:=by unfold j2; rw [hs.p,if_neg (by rw [AX.p]; decide),if_neg hna]
             have e1:jC n SS=9:=by rw [<- HA.p,GK aB (by rw [e0]; decide),e0]
             rw [<- hG.p];unfold gL
             rw [if_neg (fun h=>h tS.p),if_neg (fun h=>h G2.p),if_neg v_.p,if_pos (by rw [e1]; decide),e1])
            go_upto_region 27 with (fail);have aw:Below wD.heap.size wD wD.drew:=(Below.refl _ _).drew;replace HC:=U (HC.p.jj aw);replace RP:=U (RP.p.jj aw);replace b_:=U (b_.p.jj aw);replace RT:=U (RT.p.jj aw);replace B0:=U (B0.p.jj aw);replace B1:=U (B1.p.jj aw);replace B2:=U (B2.p.jj aw);replace B3:=U (B3.p.jj aw);replace BN:=U (BN.p.jj aw);replace CX:=U (CX.p.jj aw);replace NX:=U (NX.p.jj aw);replace C2:=U (C2.p.jj aw);replace C3:=U (C3.p.jj aw);replace KI:=U (Rg.acc KI.p aw);clear aw;refine Rg.Any.begin (S:=Rg.aI 13 (fun _=>True) (fun W=>Below wD.drew.heap.size wD.drew W)) mix ?_;generalize wD.drew=zD at *;have hS:∀ (l:Array Bool) W,Below zD.heap.size zD W->Rg.aI 13 (fun _=>True) (fun W=>Below zD.heap.size zD W) l W:=fun l W h=>⟨.inr trivial,h⟩
            have hI:Below zD.heap.size zD zD:=Below.refl _ _;refine d8 0 13 (.int .i64 ((j:Nat):Int)) 73 (hS _ _ hI) ?_;go_frame;refine d7 1 13 (.bool true) 74 rfl rfl (.inl ⟨rfl,fun w _=>bN (R:=.bool true) .gtr _ _ _ rfl rfl rfl (fD _ f9)⟩) (hS _ _ hI) ?_;go_frame;refine d8 2 13 (.bool true) 75 (hS _ _ hI) ?_;go_frame;refine d8 3 13 (.slice (some ⟨oq,mD,none⟩) s.length xc) 76 (hS _ _ hI) ?_;go_frame;refine d8 4 13 (.int .i64 ((j:Nat):Int)) 77 (hS _ _ hI) ?_;go_frame;refine d7 5 13 (.pointer (some ⟨oq,mD+j,none⟩)) 78 rfl rfl (Rg.aJ cM _ _ rfl rfl oq (mD) (s.length) xc (j) rfl rfl (by omega)) (hS _ _ hI) ?_;go_frame;refine d7 6 13 (.int .i64 x) 79 rfl rfl (j0 ⟨oq,mD+j,none⟩ (fun W hW=>ah ((Below.cell (p:=⟨oq,mD+j,none⟩) hW C2.p.lt).trans C2.p.cell))) (hS _ _ hI) ?_;go_frame;refine d8 7 13 (.slice (some ⟨oq,mD,none⟩) s.length xc) 80 (hS _ _ hI) ?_;go_frame
            refine d8 8 13 (.int .i64 ((j:Nat):Int)) 81 (hS _ _ hI) ?_;go_frame;refine d7 9 13 (.int .i64 (((j - 1):Nat):Int)) 82 rfl rfl (.inl ⟨rfl,fun w _=>bN (R:=.int .i64 (((j - 1):Nat):Int)) .sub _ _ _ rfl rfl rfl (lU _ (by omega) (by omega))⟩) (hS _ _ hI) ?_;go_frame;refine d7 10 13 (.pointer (some ⟨oq,mD+(j - 1),none⟩)) 83 rfl rfl (Rg.aJ cM _ _ rfl rfl oq (mD) (s.length) xc ((j - 1)) rfl rfl pK.p) (hS _ _ hI) ?_;go_frame;refine d7 11 13 (.int .i64 y) 84 rfl rfl (j0 ⟨oq,mD+(j - 1),none⟩ (fun W hW=>ah ((Below.cell (p:=⟨oq,mD+(j - 1),none⟩) hW C3.p.lt).trans C3.p.cell))) (hS _ _ hI) ?_;go_frame;refine d7 12 13 (.bool true) 85 rfl rfl (.inl ⟨rfl,fun w _=>bN (R:=.bool true) .leq _ _ _ rfl rfl rfl (Og _ (decide_eq_true Jy))⟩) (hS _ _ hI) ?_;go_frame;refine i9 13 86 rfl rfl (i6 (.bool true)) (hS _ _ hI) ?_;go_frame
            refine Rg.Any.done (by kernel_rfl) ?_ _;clear hS hI;go_upto_region 28 with (fail);refine c6 ?_;refine d6 2 (.int .i64 ((9:Nat):Int)) ?_;go_frame;go_wp2;go_ret;exact ⟨by rw [<- HX.p]; rfl,K.p.trans ((Rg.acc KL.p KI.p).mono K.p.size)⟩
           case neg =>
            skip
            go_upto_region 27 with (fail);have aw:Below wD.heap.size wD wD.drew:=(Below.refl _ _).drew;replace HC:=U (HC.p.jj aw);replace RP:=U (RP.p.jj aw);replace b_:=U (b_.p.jj aw);replace RT:=U (RT.p.jj aw);replace B0:=U (B0.p.jj aw);replace B1:=U (B1.p.jj aw);replace B2:=U (B2.p.jj aw);replace B3:=U (B3.p.jj aw);replace BN:=U (BN.p.jj aw);replace CX:=U (CX.p.jj aw);replace NX:=U (NX.p.jj aw);replace C2:=U (C2.p.jj aw);replace C3:=U (C3.p.jj aw);replace KI:=U (Rg.acc KI.p aw);clear aw;refine Rg.Any.begin (S:=Rg.aI 13 (fun _=>True) (fun W=>Below wD.drew.heap.size wD.drew W)) mix ?_;generalize wD.drew=zE at *;have hS:∀ (l:Array Bool) W,Below zE.heap.size zE W->Rg.aI 13 (fun _=>True) (fun W=>Below zE.heap.size zE W) l W:=fun l W h=>⟨.inr trivial,h⟩
            have hI:Below zE.heap.size zE zE:=Below.refl _ _;refine d8 0 13 (.int .i64 ((j:Nat):Int)) 73 (hS _ _ hI) ?_;go_frame;refine d7 1 13 (.bool true) 74 rfl rfl (.inl ⟨rfl,fun w _=>bN (R:=.bool true) .gtr _ _ _ rfl rfl rfl (fD _ f9)⟩) (hS _ _ hI) ?_;go_frame;refine d8 2 13 (.bool true) 75 (hS _ _ hI) ?_;go_frame;refine d8 3 13 (.slice (some ⟨oq,mD,none⟩) s.length xc) 76 (hS _ _ hI) ?_;go_frame;refine d8 4 13 (.int .i64 ((j:Nat):Int)) 77 (hS _ _ hI) ?_;go_frame;refine d7 5 13 (.pointer (some ⟨oq,mD+j,none⟩)) 78 rfl rfl (Rg.aJ cM _ _ rfl rfl oq (mD) (s.length) xc (j) rfl rfl (by omega)) (hS _ _ hI) ?_;go_frame;refine d7 6 13 (.int .i64 x) 79 rfl rfl (j0 ⟨oq,mD+j,none⟩ (fun W hW=>ah ((Below.cell (p:=⟨oq,mD+j,none⟩) hW C2.p.lt).trans C2.p.cell))) (hS _ _ hI) ?_;go_frame;refine d8 7 13 (.slice (some ⟨oq,mD,none⟩) s.length xc) 80 (hS _ _ hI) ?_;go_frame
            refine d8 8 13 (.int .i64 ((j:Nat):Int)) 81 (hS _ _ hI) ?_;go_frame;refine d7 9 13 (.int .i64 (((j - 1):Nat):Int)) 82 rfl rfl (.inl ⟨rfl,fun w _=>bN (R:=.int .i64 (((j - 1):Nat):Int)) .sub _ _ _ rfl rfl rfl (lU _ (by omega) (by omega))⟩) (hS _ _ hI) ?_;go_frame;refine d7 10 13 (.pointer (some ⟨oq,mD+(j - 1),none⟩)) 83 rfl rfl (Rg.aJ cM _ _ rfl rfl oq (mD) (s.length) xc ((j - 1)) rfl rfl pK.p) (hS _ _ hI) ?_;go_frame;refine d7 11 13 (.int .i64 y) 84 rfl rfl (j0 ⟨oq,mD+(j - 1),none⟩ (fun W hW=>ah ((Below.cell (p:=⟨oq,mD+(j - 1),none⟩) hW C3.p.lt).trans C3.p.cell))) (hS _ _ hI) ?_;go_frame;refine d7 12 13 (.bool false) 85 rfl rfl (.inl ⟨rfl,fun w _=>bN (R:=.bool false) .leq _ _ _ rfl rfl rfl (Og _ (decide_eq_false Jy))⟩) (hS _ _ hI) ?_;go_frame;refine i9 13 86 rfl rfl (i6 (.bool false)) (hS _ _ hI) ?_;go_frame
            refine Rg.Any.done (by kernel_rfl) ?_ _;clear hS hI;go_upto_region 29 with (fail);refine c6 ?_;refine d4 87 (i3 (.int .i64 (((j+1):Nat):Int)) .add (h:=cg _ (by omega) (by omega))) ?_;go_frame;refine d5 70 (.int .i64 (((j+1):Nat):Int)) ?_;go_frame
            have OG:=U (show ∀ i (h:i<s.length),i<j+1->1<=i->s[i - 1]'(by omega)<s[i] from fun i h h0 h1=>by
             by_cases e:i=j
             ·subst e; rw [hx.p,hy.p]; omega
             ·exact HI.p i h (by omega) h1)
            clear HI Xp C2 C3;go_wp2
            go_roundw
            case rel=>exact ⟨j+1,by go_num,rz,OG,KI⟩
            case measure=>simp [intOf]; omega
         obtain rfl:j=s.length:=by omega
         have oH:=U (show jC n (SS.drop (k+1))=jC n SS by
          rw [<- HA.p,Nq aB];unfold j2
          rw [hs.p,if_neg (by rw [AX.p]; decide),if_pos (show pz s from fun i h h1=>HI.p i h h h1)])
         clear HI;go_upto_region 25 with (fail);refine c6 ?_;refine d4 71 (i3 (.bool false) .lss (h:=bj _ g7)) ?_;go_frame;go_upto_region 30 with (fail);refine c6 ?_;refine d4 88 (i3 (.int .i64 (((k+1):Nat):Int)) .add (h:=cg _ (by omega) (by omega))) ?_;go_frame;refine d5 61 (.int .i64 (((k+1):Nat):Int)) ?_;go_frame;clear CX NX KI;go_wp2
         go_roundw
         case rel=>exact ⟨k+1,by go_num,aB,oH,Xp⟩
         case measure=>simp [intOf]; omega
      obtain rfl:k=SS.length:=by omega
      have kM:=U (show jC n SS=0 by rw [<- HA.p,List.drop_length]; rfl);replace K:=U (K.p.trans (KL.p.mono K.p.size));clear HA KL;go_upto_region 20 with (fail);refine c6 ?_;refine d4 62 (i3 (.bool false) .lss (h:=bj _ g7)) ?_;go_frame;go_upto_region 31 with (fail);refine c6 ?_;refine d4 89 (ag _ rfl rfl (aap _ _)) ?_;go_frame;refine d4 90 (g9 (.slice ta TS.length tc) ⟨w.heap.size,3,none⟩ (Rg.ae _ _ Tryz.underlying22 B3.p.cell)) ?_;go_frame;refine d4 91 (i4 Tryz.underlying22) ?_;go_frame;refine d5 92 (.int .i64 ((0:Nat):Int)) ?_;go_frame;have KL:=U (Below.refl wC.heap.size wC);have zB:=U (show ku n (TS.drop 0)=ku n TS from rfl);go_wp2
      go_loopw [92] (fun iv wr=>∃ k:Nat,iv=.int .i64 ((k:Nat):Int)/\k<=TS.length/\Hid (ku n (TS.drop k)=ku n TS)/\Hid (Below wC.heap.size wC wr)) (fun iv _=>TS.length - (intOf iv).toNat)
      case atStart=>exact ⟨0,rfl,Nat.zero_le _,zB,KL⟩
      case round =>
       clear zB KL;obtain ⟨k,rfl,hk,HA,KL⟩:=hrel;generalize wr=wE at *;replace HC:=U (HC.p.jj KL.p);replace RP:=U (RP.p.jj KL.p);replace b_:=U (b_.p.jj KL.p);replace RT:=U (RT.p.jj KL.p);replace B0:=U (B0.p.jj KL.p);replace B1:=U (B1.p.jj KL.p);replace B2:=U (B2.p.jj KL.p);replace B3:=U (B3.p.jj KL.p);replace BN:=U (BN.p.jj KL.p)
       by_cases aB:k<TS.length
       case pos =>
        obtain ⟨lb,lo,_,_,e1,cZ,cF,dg⟩:=jy RT.p.r (i:=k) aB;subst e1;obtain ⟨s,hs⟩:∃ s,Hid (TS[k]=s):=⟨_,U rfl⟩;rw [hs.p] at cF dg;have rC:=U (show s.length<=100 from hs.p▸xB.p _ (List.getElem_mem aB));obtain ⟨pm,xa,xc,nh,gG,-⟩:=dg.len;rw [gG,<- nh] at cF dg;clear nh gG;have CX:=U (CL.mk cF cZ);have NX:=U (dm.mk dg);clear cZ cF dg;have mC:s.length<=100:=rC.p;obtain ⟨bo,AX⟩:∃ t,Hid (s.any (i_ n)=t):=⟨_,U rfl⟩;go_upto_region 32 with (fail);refine c6 ?_;refine d4 93 (i3 (.bool true) .lss (h:=bj _ f9)) ?_;go_frame;go_upto_region 33 with (fail);refine c6 ?_;refine d4 94 (aD ef _ _ rfl lb (lo) (TS.length) tc (k) rfl rfl (by omega)) ?_;go_frame;refine d4 95 (g9 (.slice xa s.length xc) ⟨lb,lo+k,none⟩ (Rg.ae _ _ Tryz.underlying26 CX.p.cell)) ?_;go_frame
        refine d6 15 (.slice xa s.length xc) ?_;go_frame
        by_cases N2:64<s.length
        case pos =>
         have HX:=U (show (4:Int)=G by
          have e0:lA n TS[k]=4:=by unfold lA; rw [hs.p,if_pos N2]
          have e1:ku n TS=4:=by rw [<- HA.p,GL aB (by rw [e0]; decide),e0]
          rw [<- hG.p];unfold gL
          rw [if_neg (fun h=>h tS.p),if_neg (fun h=>h G2.p),if_neg v_.p,if_neg (fun h=>h kM.p),if_pos (by rw [e1]; decide),e1])
         go_upto_region 34 with (fail);refine c6 ?_;refine d5 96 (.slice xa s.length xc) ?_;go_frame;refine d4 97 (i4 Tryz.underlying26) ?_;go_frame;refine d4 98 (i3 (.bool true) .gtr (h:=fD _ f9)) ?_;go_frame;go_upto_region 35 with (fail);refine c6 ?_;refine d6 2 (.int .i64 ((4:Nat):Int)) ?_;go_frame;go_wp2;go_ret;exact ⟨by rw [<- HX.p]; rfl,K.p.trans (KL.p.mono K.p.size)⟩
        case neg =>
         skip
         go_upto_region 34 with (fail);refine c6 ?_;refine d5 96 (.slice xa s.length xc) ?_;go_frame;refine d4 97 (i4 Tryz.underlying26) ?_;go_frame;refine d4 98 (i3 (.bool false) .gtr (h:=fD _ g7)) ?_;go_frame
         cases bo
         case true =>
          have HX:=U (show (2:Int)=G by
           have e0:lA n TS[k]=2:=by unfold lA; rw [hs.p,if_neg N2,if_pos AX.p]
           have e1:ku n TS=2:=by rw [<- HA.p,GL aB (by rw [e0]; decide),e0]
           rw [<- hG.p];unfold gL
           rw [if_neg (fun h=>h tS.p),if_neg (fun h=>h G2.p),if_neg v_.p,if_neg (fun h=>h kM.p),if_pos (by rw [e1]; decide),e1])
          go_upto_region 36 with (fail);refine c6 ?_;refine d5 99 (.slice xa s.length xc) ?_;go_frame;refine d5 100 ((.func (.func 104) #[] #[.pointer (some ⟨wB.heap.size,0,none⟩)])) ?_;go_frame;refine f8 101 (aj 105 _ _ _ rfl rfl rfl (DL _ _)) ?_;refine (fY _ s _ _ (i_ n) wE NX.p.i (by omega) (fun _ _=>by kernel_rfl) (fun x _ w1 hb=>by exact qZ n x wB.heap.size w1 ((hb.cell (p:=⟨wB.heap.size,0,none⟩) (BN.p).lt).trans (BN.p).c) (Nat.lt_of_lt_of_le (BN.p).lt hb.size))).mono ?_;rintro e1 Vk ⟨rfl,hb⟩;rw [AX.p];refine ⟨_,rfl,?_⟩;go_frame;replace HC:=U (HC.p.jj hb);replace RP:=U (RP.p.jj hb);replace b_:=U (b_.p.jj hb);replace RT:=U (RT.p.jj hb);replace B0:=U (B0.p.jj hb);replace B1:=U (B1.p.jj hb);replace B2:=U (B2.p.jj hb);replace B3:=U (B3.p.jj hb);replace BN:=U (BN.p.jj hb)
          replace CX:=U (CX.p.jj hb);replace NX:=U (NX.p.jj hb);replace KL:=U (Rg.acc KL.p hb);clear hb;go_upto_region 37 with (fail);refine c6 ?_;refine d6 2 (.int .i64 ((2:Nat):Int)) ?_;go_frame;go_wp2;go_ret;exact ⟨by rw [<- HX.p]; rfl,K.p.trans (KL.p.mono K.p.size)⟩
         case false =>
          have oH:=U (show ku n (TS.drop (k+1))=ku n TS by
           rw [<- HA.p,Nr aB];unfold lA
           rw [hs.p,if_neg N2,if_neg (by rw [AX.p]; decide)])
          go_upto_region 36 with (fail);refine c6 ?_;refine d5 99 (.slice xa s.length xc) ?_;go_frame;refine d5 100 ((.func (.func 104) #[] #[.pointer (some ⟨wB.heap.size,0,none⟩)])) ?_;go_frame;refine f8 101 (aj 105 _ _ _ rfl rfl rfl (DL _ _)) ?_;refine (fY _ s _ _ (i_ n) wE NX.p.i (by omega) (fun _ _=>by kernel_rfl) (fun x _ w1 hb=>by exact qZ n x wB.heap.size w1 ((hb.cell (p:=⟨wB.heap.size,0,none⟩) (BN.p).lt).trans (BN.p).c) (Nat.lt_of_lt_of_le (BN.p).lt hb.size))).mono ?_;rintro e1 U_ ⟨rfl,hb⟩;rw [AX.p];refine ⟨_,rfl,?_⟩;go_frame;replace HC:=U (HC.p.jj hb);replace RP:=U (RP.p.jj hb);replace b_:=U (b_.p.jj hb);replace RT:=U (RT.p.jj hb);replace B0:=U (B0.p.jj hb);replace B1:=U (B1.p.jj hb);replace B2:=U (B2.p.jj hb);replace B3:=U (B3.p.jj hb);replace BN:=U (BN.p.jj hb)
          replace CX:=U (CX.p.jj hb);replace NX:=U (NX.p.jj hb);replace KL:=U (Rg.acc KL.p hb);clear hb;go_upto_region 38 with (fail);refine c6 ?_;refine d4 102 (i3 (.int .i64 (((k+1):Nat):Int)) .add (h:=cg _ (by omega) (by omega))) ?_;go_frame;refine d5 92 (.int .i64 (((k+1):Nat):Int)) ?_;go_frame;clear HA CX NX;go_wp2
          go_roundw
          case rel=>exact ⟨k+1,by go_num,aB,oH,KL⟩
          case measure=>simp [intOf]; omega
       obtain rfl:k=TS.length:=by omega
       have Z6:=U (show ku n TS=0 by rw [<- HA.p,List.drop_length]; rfl);replace K:=U (K.p.trans (KL.p.mono K.p.size));clear HA KL;go_upto_region 32 with (fail);refine c6 ?_;refine d4 93 (i3 (.bool false) .lss (h:=bj _ g7)) ?_;go_frame;obtain ⟨oa,on,oc,ra,rn,rc,q0,q1,q2,q3⟩:=HC.p.at_ 0 h1;rw [eJ.p,s9.p] at q0;have vZ:=kP q0 q1 q2;rw [eJ.p] at q3;have CE:=U q3;clear q0 q1 q2 q3;go_upto_region 39 with (fail);refine c6 ?_;refine d4 103 (ag _ rfl rfl (wW _ _)) ?_;go_frame;refine d4 104 (g9 (.slice (some ⟨b,0,none⟩) CS.length cc) ⟨w.heap.size,0,none⟩ (Rg.ae _ _ Tryz.underlying71 B0.p.cell)) ?_;go_frame;refine d4 105 (bD _ _ rfl Tryz.underlying71 od b (CS.length) (cc) (0) rfl rfl h1) ?_;go_frame;refine d4 106 (Rg.fQ (v:=(.agg #[.int .i64 n,.slice oa on oc,.slice ra rn rc])) _ _ rfl ⟨b,0*3,none⟩ rfl vZ) ?_;go_frame
       refine f8 107 (aE 106 _ _ rfl rfl (Xn _ _)) ?_;refine (QI (n:=n) (aaq eJ.p s9.p tS.p h1) (by rw [<- s9.p]; exact HN.p) CE.p).mono ?_;rintro e1 aaR ⟨rfl,hb⟩;refine ⟨_,rfl,?_⟩;go_frame;replace HC:=U (HC.p.jj hb);replace RP:=U (RP.p.jj hb);replace b_:=U (b_.p.jj hb);replace RT:=U (RT.p.jj hb);replace B0:=U (B0.p.jj hb);replace B1:=U (B1.p.jj hb);replace B2:=U (B2.p.jj hb);replace B3:=U (B3.p.jj hb);replace BN:=U (BN.p.jj hb);replace CE:=U (CE.p.jj hb);replace K:=U (Rg.acc K.p hb);clear hb;refine d6 2 (.int .i64 (uz (n,c0.2.1,c0.2.2))) ?_;go_frame
       have HX:=U (show uz (n,c0.2.1,c0.2.2)=G by
        rw [<- hG.p];unfold gL
        rw [if_neg (fun h=>h tS.p),if_neg (fun h=>h G2.p),if_neg v_.p,if_neg (fun h=>h kM.p),if_neg (fun h=>h Z6.p),<- s9.p])
       go_wp2;go_ret;exact ⟨by rw [<- HX.p]; rfl,K.p⟩
end
section
open Go.Proofs.Ob
open Go.Proofs.Cm (Gd Gr ak ap lexLt cj St)
attribute [local go_sem] Oper.semAt_some
attribute [local irreducible] Go.Calls Go.wpList Go.wpListIn
theorem QK (args:Array Value) (w:World):(callFunc 78 args).run Tryz.prog w=.ok (.enter 78 args) w:=by kernel_rfl
theorem QL (args:Array Value) (w:World):(callFunc 79 args).run Tryz.prog w=.ok (.enter 79 args) w:=by kernel_rfl
theorem QM:(Tryz.prog.info? 73).map (fun i=>i.size)=some 4:=by kernel_rfl
theorem wX {b:Nat} {x y z:Value} (h0:w.cell? ⟨b,0,none⟩=some x) (h1:w.cell? ⟨b,1,none⟩=some y) (h2:w.cell? ⟨b,2,none⟩=some z) (h3:w.cell? ⟨b,3,none⟩=some u):(loadVar 73 ⟨b,0,none⟩).run Tryz.prog w=.ok (.agg #[x,y,z,u]) w:=by
 obtain ⟨i0,hi,bz⟩:∃ i,Tryz.prog.info? 73=some i/\i.size=4:=by
  have:=QM
  cases h:Tryz.prog.info? 73 with
  | none=>rw [h] at this; simp at this
  | some i=>rw [h] at this; simp at this; exact ⟨i,rfl,this⟩
 have pV:(⟨b,0,none⟩:Addr).add 0=⟨b,0,none⟩:=by simp [Addr.add]
 have mX:(⟨b,0,none⟩:Addr).add 1=⟨b,1,none⟩:=by simp [Addr.add]
 have mA:(⟨b,0,none⟩:Addr).add 2=⟨b,2,none⟩:=by simp [Addr.add]
 have ha3:(⟨b,0,none⟩:Addr).add 3=⟨b,3,none⟩:=by simp [Addr.add]
 have hg:(isAgg 73).run Tryz.prog w=.ok true w:=by kernel_rfl
 simp [loadVar,hg,sizeOf,typeInfo,hi,bz,loadCells,loadCellsFrom,load,pV,mX,mA,ha3];simp [Sem.run,h0,h1,h2,h3]
theorem qI {ad:Addr} (h:w.cell? ad=some v):(loadVar 110 ad).run Tryz.prog w=.ok v w:=by
 have hg:(isAgg 110).run Tryz.prog w=.ok false w:=by kernel_rfl
 simp [loadVar,hg,load];simp [Sem.run,h]
theorem wa {o : Oper} {a : Act} {x1 recv:Value} {F : FuncId} (f x : Operand) (pW : Array TypeId) (ho : o.op = .call { callee := .invoke f "cayley/search.maps", args := #[x], argTypes := pW }) (hf : a.eval f = tv) (hx : a.eval x = x1)
  (hF : (callMethod tv "cayley/search.maps" #[x1]).run Tryz.prog w = .ok (.enter F #[recv, x1]) w) : (execOp a.eval o).run Tryz.prog w = .ok (.enter F #[recv, x1]) w := by
 unfold execOp;simp [ho,hx,hf,resolve,invoke,Deferred.ofValue,hF]
theorem CL.same {b o:Nat} (h:CL W b o v) (hs:RF.jP W W'):CL W' b o v:=CL.mk ((hs.cell _).trans h.cell) (Nat.lt_of_lt_of_le h.lt hs.size)
theorem CW.same {b:Nat} (h:CW W b v) (hs:RF.jP W W'):CW W' b v:=⟨(hs.cell _).trans h.c,(hs.frozen _).trans h.f,Nat.lt_of_lt_of_le h.lt hs.size⟩
theorem _root_.Go.Proofs.Rg.FI.jj {l:List Int} (h:Rg.FI F W v l) (hb:Below W.heap.size W W'):Rg.FI F W' v l:=Rg.FI.kp h (M:=fun _=>False) (Rg.Kp.aC hb) (fun _ _=>id)
structure lL (N:Nat) (tv:Value) (Pb:List Nat->Bool) (Fk:Nat->Prop) (A:World->Prop) (W:World):Prop where
 th:ThU N tv Pb Fk A
 a:A W
theorem lL.jj {Pb:List Nat->Bool} {A:World->Prop} (h:lL N tv Pb Fk A W) (hb:Below W.heap.size W W'):lL N tv Pb Fk A W':=⟨h.th,h.th.kp _ _ _ h.a (Rg.Kp.aC hb) (fun _ _=>id)⟩
theorem lL.same {N:Nat} {tv:Value} {Pb:List Nat->Bool} {Fk:Nat->Prop} {A:World->Prop} {W W':World} (h:lL N tv Pb Fk A W) (hs:RF.jP W W'):lL N tv Pb Fk A W':=⟨h.th,h.th.same _ _ h.a hs⟩
theorem lL.kp {N:Nat} {tv:Value} {Pb:List Nat->Bool} {Fk C:Nat->Prop} {A:World->Prop} {W W':World} (h:lL N tv Pb Fk A W) (hk:Rg.Kp C W W') (hC:∀ z,Fk z->¬ C z):lL N tv Pb Fk A W':=⟨h.th,h.th.kp _ _ _ h.a hk hC⟩
theorem iG {n:Int} {CS:List gS} {SS TS:List (List Int)} {c0:gS} (h:gL n CS PS SS TS c0=0):ks CS=0/\Ma.dT PS=0/\¬ ((CS.any fun c=>decide (c.1≠n))=true∨(PS.any fun x=>decide ((x.length:Int)≠n))=true)/\jC n SS=0/\ku n TS=0/\uz c0=0:=by
 unfold gL at h
 by_cases h1:ks CS=0
 case neg=>rw [if_pos h1] at h; exact absurd h h1
 rw [if_neg (fun g=>g h1)] at h
 by_cases h2:Ma.dT PS=0
 case neg=>rw [if_pos h2] at h; exact absurd h h2
 rw [if_neg (fun g=>g h2)] at h
 by_cases h3:(CS.any fun c=>decide (c.1≠n))=true∨(PS.any fun x=>decide ((x.length:Int)≠n))=true
 case pos=>rw [if_pos h3] at h; exact absurd h (by decide)
 rw [if_neg h3] at h
 by_cases h4:jC n SS=0
 case neg=>rw [if_pos h4] at h; exact absurd h h4
 rw [if_neg (fun g=>g h4)] at h
 by_cases h5:ku n TS=0
 case neg=>rw [if_pos h5] at h; exact absurd h h5
 rw [if_neg (fun g=>g h5)] at h;exact ⟨h1,h2,h3,h4,h5,h⟩
def BR (LL:List (List Nat)) (Pb:List Nat->Bool) (e:Ending) (w':World):Prop :=
 ((∀ i,i<LL.length->Pb (LL.getD i [])=false)/\e=.returned (.tuple #[.slice none 0 0,.int .i64 18])) ∨
 ∃ k x,k<LL.length/\Pb (LL.getD k [])=true/\(∀ i,i<k->Pb (LL.getD i [])=false)/\e=.returned (.tuple #[x,.int .i64 0])/\Rg.NP w' x (LL.getD k [])
def AY (c:gS) (N:Nat) (O:List (List Nat)) (R:List (List (List Nat))):Prop :=
 c.1=((N:Nat):Int)/\1<=N/\N<=64/\c.2.1=O.map Ma.af/\c.2.2=R.map (List.map Ma.af)/\ak N (Gr N (·∈R.flatten)) O R/\∀ s∈R.flatten,Gd N s
theorem wY (n:Int) (ov rv:Value) (w:World) :
  Calls Tryz.prog 79 #[.agg #[.int .i64 n,ov,rv]] w fun e w'=>∃ cb,w.heap.size<=cb/\e=.returned (.func (.func 107) #[] #[.pointer (some ⟨cb,0,none⟩)])/\(CL w' cb 0 (.int .i64 n)/\CL w' cb 1 ov/\CL w' cb 2 rv)/\Below w.heap.size w w' :=
 (JH n ov rv w).mono fun _ _ h=>⟨_,Nat.le_refl _,h⟩
theorem kQ {ll:List (List (List Int))} (h:g_ w v ll):bg (fun k=>k<w.heap.size) w v ll:=by
 obtain ⟨us,⟨a,cap,h1,h2,h3,h4,h5⟩,h6,h7⟩:=h;refine ⟨us,⟨a,cap,h1,h2,h3,h4,fun h0=>?_⟩,h6,fun i p q=>Rg.aG.nH (h7 i p q)⟩;obtain ⟨b,o,e1,e2,e4⟩:=h5 h0;exact ⟨b,o,e1,e2,e2,e4⟩
def iL (ck:Int) (c0:gS) (Pb:List Nat->Bool) (w:World) (e:Ending) (w':World):Prop:=Below w.heap.size w w' /\
 ((ck≠0/\e=.returned (.tuple #[.slice none 0 0,.int .i64 ck]))∨(ck=0/\∃ N O R,AY c0 N O R/\BR (gQ N O R) Pb e w'))
structure FsI (N:Nat) (LL:List (List Nat)) (Pb:List Nat->Bool) (Fk:Nat->Prop) (A:World->Prop) (Bt B4 B5:Nat) (tv:Value) (t:Nat) (C:Nat->Prop) (W:World):Prop where
 e:C=fun z=>z=B4∨z=B5
 a:lL N tv Pb Fk A W
 ct:CL W Bt 0 tv
 c4:CW W B4 (.slice none 0 0)
 c5:CW W B5 (.int .i64 0)
 no:∀ i,i<t->Pb (LL.getD i [])=false
structure FsX (LL:List (List Nat)) (Pb:List Nat->Bool) (B4 B5:Nat) (c:Code) (W:World):Prop where
 e:c=.ret
 g:∃ k x,k<LL.length/\Pb (LL.getD k [])=true/\(∀ i,i<k->Pb (LL.getD i [])=false)/\CW W B4 x/\CW W B5 (.int .i64 0)/\Rg.FI (fun z=>¬ (z=B4∨z=B5)) W x (Ma.af (LL.getD k []))
theorem oZ {b cc:Nat} {CS:List gS} {GP GW G1:Value} {SS TS:List (List Int)} (hC:n_ b CS w) (h1:1<=CS.length) (lC:CS.length<=100) (hP:Rg.Rows w GP PS) (rX:PS.length<=100) (hS:Rg.Rows w GW SS) (kh:SS.length<=100) (iF:∀ s∈SS,s.length<=100) (hT:Rg.Rows w G1 TS) (C6:TS.length<=100) (v8:∀ s∈TS,s.length<=100) (hn:(CS[0]'(by omega)).1<=12)
  {ty:TypeId} {vv:Value} {Pb:List Nat->Bool} {A:World->Prop} (DM:gL (CS[0]'(by omega)).1 CS PS SS TS (CS[0]'(by omega))=0->lL (CS[0]'(by omega)).1.toNat (.iface ty vv) Pb Fk A w/\∀ z,Fk z->z<w.heap.size) :
  Calls Tryz.prog 63 #[.agg #[.slice (some ⟨b,0,none⟩) CS.length cc,GP,GW,G1],.iface ty vv] w (iL (gL (CS[0]'(by omega)).1 CS PS SS TS (CS[0]'(by omega))) (CS[0]'(by omega)) Pb w):=by
 obtain ⟨pa,pc,rfl,-⟩:=hP.shape;obtain ⟨sa,sc,rfl,-⟩:=hS.shape;obtain ⟨ta,tc,rfl,-⟩:=hT.shape;obtain ⟨ck,dY⟩:∃ z,Hid (gL (CS[0]'(by omega)).1 CS PS SS TS (CS[0]'(by omega))=z):=⟨_,U rfl⟩;rw [dY.p] at DM ⊢;obtain ⟨c0,eJ⟩:∃ c,Hid (CS[0]'(by omega)=c):=⟨_,U rfl⟩;rw [eJ.p] at DM ⊢;have QN:=U DM;have HN:=U hn;have HC:=U hC;have DN:=U hC;have RP:=U (iR.mk hP);have b_:=U (iR.mk hS);have RT:=U (iR.mk hT);have om:=U iF;have xB:=U v8;have K:=U (Below.refl w.heap.size w);have yu:w.heap.size=w.heap.size+0:=rfl;clear hC hP hS hT iF v8 hn DM;refine RF.fV Tryz.func63 rfl ?_;simp only [Tryz.ntmps63,List.size_toArray,List.length_cons,List.length_nil,Nat.reduceAdd,Nat.reduceSub,Array.replicate_succ,Array.replicate_zero,List.push_toArray,List.append_toArray,List.nil_append,List.cons_append];go_upto_region 0 with (fail)
 refine c6 ?_;have aF:=DJ w (.slice (some ⟨b,0,none⟩) CS.length cc) (.slice pa PS.length pc) (.slice sa SS.length sc) (.slice ta TS.length tc) 73
 have hs:(w.alloc (.cells #[.slice (some ⟨b,0,none⟩) CS.length cc,.slice pa PS.length pc,.slice sa SS.length sc,.slice ta TS.length tc] 73)).heap.size=w.heap.size+1:=by simp
 refine d4 2 (Rg.aY _ _ rfl rfl) ?_;go_frame;have hb:=(Below.refl w.heap.size w).alloc (Nat.le_refl _) (.cells #[.slice (some ⟨b,0,none⟩) CS.length cc,.slice pa PS.length pc,.slice sa SS.length sc,.slice ta TS.length tc] 73);generalize w.alloc (.cells #[.slice (some ⟨b,0,none⟩) CS.length cc,.slice pa PS.length pc,.slice sa SS.length sc,.slice ta TS.length tc] 73)=w1 at *;replace HC:=U (HC.p.jj hb);replace RP:=U (RP.p.jj hb);replace b_:=U (b_.p.jj hb);replace RT:=U (RT.p.jj hb);replace K:=U (Rg.acc K.p hb);clear hb;have B0:=U aF.1;have B1:=U aF.2.1;have B2:=U aF.2.2.1;have B3:=U aF.2.2.2
 have lD:w1.heap.size=w.heap.size+1:=by omega
 clear aF hs;have bX:=CW.new w1 (.iface ty vv) 110
 have hs:(w1.alloc (.cells #[.iface ty vv] 110)).heap.size=w1.heap.size+1:=by simp
 refine d4 3 (jr (v:=.iface ty vv) _ _ rfl rfl rfl) ?_;go_frame;have hb:=(Below.refl w1.heap.size w1).alloc (Nat.le_refl _) (.cells #[.iface ty vv] 110);generalize w1.alloc (.cells #[.iface ty vv] 110)=w2 at *;replace HC:=U (HC.p.jj hb);replace RP:=U (RP.p.jj hb);replace b_:=U (b_.p.jj hb);replace RT:=U (RT.p.jj hb);replace B0:=U (B0.p.jj hb);replace B1:=U (B1.p.jj hb);replace B2:=U (B2.p.jj hb);replace B3:=U (B3.p.jj hb);replace K:=U (Rg.acc K.p hb);clear hb;have BT:=U bX;rw [lD] at BT ⊢
 have iY:w2.heap.size=w.heap.size+2:=by omega
 clear bX hs;have bX:=CW.new w2 (.slice none 0 0) 27
 have hs:(w2.alloc (.cells #[.slice none 0 0] 27)).heap.size=w2.heap.size+1:=by simp
 refine d4 4 (rM rfl) ?_;go_frame;have hb:=(Below.refl w2.heap.size w2).alloc (Nat.le_refl _) (.cells #[.slice none 0 0] 27);generalize w2.alloc (.cells #[.slice none 0 0] 27)=w3 at *;replace HC:=U (HC.p.jj hb);replace RP:=U (RP.p.jj hb);replace b_:=U (b_.p.jj hb);replace RT:=U (RT.p.jj hb);replace B0:=U (B0.p.jj hb);replace B1:=U (B1.p.jj hb);replace B2:=U (B2.p.jj hb);replace B3:=U (B3.p.jj hb);replace BT:=U (BT.p.jj hb);replace K:=U (Rg.acc K.p hb);clear hb;have C4:=U bX;rw [iY] at C4 ⊢
 have xu:w3.heap.size=w.heap.size+3:=by omega
 clear bX hs;have bX:=CW.new w3 (.int .i64 0) 30
 have hs:(w3.alloc (.cells #[.int .i64 0] 30)).heap.size=w3.heap.size+1:=by simp
 refine d4 5 (oN rfl) ?_;go_frame;have hb:=(Below.refl w3.heap.size w3).alloc (Nat.le_refl _) (.cells #[.int .i64 0] 30);generalize w3.alloc (.cells #[.int .i64 0] 30)=w4 at *;replace HC:=U (HC.p.jj hb);replace RP:=U (RP.p.jj hb);replace b_:=U (b_.p.jj hb);replace RT:=U (RT.p.jj hb);replace B0:=U (B0.p.jj hb);replace B1:=U (B1.p.jj hb);replace B2:=U (B2.p.jj hb);replace B3:=U (B3.p.jj hb);replace BT:=U (BT.p.jj hb);replace C4:=U (C4.p.jj hb);replace K:=U (Rg.acc K.p hb);clear hb;have C5:=U bX;rw [xu] at C5 ⊢
 have Mu:w4.heap.size=w.heap.size+4:=by omega
 clear bX hs;go_upto_region 1 with (fail);refine c6 ?_;refine d4 8 (g9 ((.agg #[.slice (some ⟨b,0,none⟩) CS.length cc,.slice pa PS.length pc,.slice sa SS.length sc,.slice ta TS.length tc])) ⟨w.heap.size,0,none⟩ (wX B0.p.cell B1.p.cell B2.p.cell B3.p.cell)) ?_;go_frame;refine f8 9 (aE 78 _ _ rfl rfl (QK _ _)) ?_;refine (uA (cc:=cc) HC.p h1 lC RP.p.r rX b_.p.r kh om.p RT.p.r C6 xB.p HN.p).mono ?_;rintro e1 w5 ⟨rfl,hb⟩;rw [dY.p];refine ⟨_,rfl,?_⟩;go_frame;replace HC:=U (HC.p.jj hb);replace RP:=U (RP.p.jj hb);replace b_:=U (b_.p.jj hb);replace RT:=U (RT.p.jj hb);replace B0:=U (B0.p.jj hb);replace B1:=U (B1.p.jj hb);replace B2:=U (B2.p.jj hb);replace B3:=U (B3.p.jj hb);replace BT:=U (BT.p.jj hb);replace C4:=U (C4.p.jj hb);replace C5:=U (C5.p.jj hb)
 replace K:=U (Rg.acc K.p hb);clear hb;refine d6 6 (.int .i64 ck) ?_;go_frame;have yS:=U (show w.heap.size+4<=w5.heap.size by have:=C5.p.lt; omega);clear yu lD iY xu
 by_cases hz:ck=0
 case neg =>
  skip
  go_upto_region 2 with (fail);refine c6 ?_;refine d5 10 (.int .i64 ck) ?_;go_frame;refine d4 11 (i3 (.bool true) .neq (h:=aQ _ (decide_eq_true hz))) ?_;go_frame;go_upto_region 3 with (fail);refine c6 ?_;refine d5 12 (.int .i64 ck) ?_;go_frame;refine Rg.aA none rfl rfl (Rg.ai _ _ _ rfl _ rfl _ rfl (Rg.br _ dC C4.p.c C4.p.f)) ?_;go_frame;refine Rg.aA none rfl rfl (Rg.ai _ _ _ rfl _ rfl _ rfl (bR ck (C5.p.other (.slice none 0 0) (b':=w.heap.size+2) (o:=0) (by omega)).c (C5.p.other (.slice none 0 0) (b':=w.heap.size+2) (o:=0) (by omega)).f)) ?_;go_frame;have y4:=(C4.p.set (.slice none 0 0)).other (.int .i64 ck) (b':=w.heap.size+3) (o:=0) (by omega);have y5:=(C5.p.other (.slice none 0 0) (b':=w.heap.size+2) (o:=0) (by omega)).set (.int .i64 ck);have hk:Below w.heap.size w ((w5.setCell ⟨w.heap.size+2,0,none⟩ (.slice none 0 0)).setCell ⟨w.heap.size+3,0,none⟩ (.int .i64 ck)):=(K.p.setCell (p:=⟨w.heap.size+2,0,none⟩) (show w.heap.size<=w.heap.size+2 by omega) _).setCell (p:=⟨w.heap.size+3,0,none⟩) (show w.heap.size<=w.heap.size+3 by omega) _
  generalize (w5.setCell ⟨w.heap.size+2,0,none⟩ (.slice none 0 0)).setCell ⟨w.heap.size+3,0,none⟩ (.int .i64 ck)=ep at *;go_wp2;exact RF.leaves w.heap.size [] _ (by simp) (by simp) (fun W' l1 l2 _=>⟨_,gD rfl _ rfl rfl (Rg.ae _ _ Tryz.underlying27 ((l2 _).trans y4.c)) (l7 ((l2 _).trans y5.c)),hk.trans l1,.inl ⟨hz,rfl⟩⟩)
 case pos =>
  subst hz;go_upto_region 2 with (fail);refine c6 ?_;refine d5 10 (.int .i64 0) ?_;go_frame;refine d4 11 (i3 (.bool false) .neq (h:=aQ _ g7)) ?_;go_frame;obtain ⟨bz,dW,Xq,Xr,Xs,TR⟩:=iG dY.p;obtain ⟨N,O,R,en,bW,cN,eo,er,cQ,hH⟩:=fa (oh bz _ (List.getElem_mem (show 0<CS.length by omega)));obtain ⟨Cp,aB⟩:=QN.p rfl;have Xt:=U aB;have QO:=U (show AY c0 N O R from by rw [<- eJ.p]; exact ⟨en,bW,cN,eo,er,cQ,hH⟩)
  have QP:(CS[0]'(by omega)).1.toNat=N:=by rw [en]; simp
  have TH:=U (show lL N (.iface ty vv) Pb Fk A w from by rw [<- QP,eJ.p]; exact Cp);replace TH:=U (TH.p.jj K.p);have dE:=U cQ;have DO:=U hH;obtain ⟨oa,on,oc,ra,rn,rc,q0,q1,q2,q3⟩:=DN.p.at_ 0 (by omega);rw [en] at q0;rw [eo,er] at q3;have vZ:=kP ((K.p.cell (p:=⟨b,0*3,none⟩) DN.p.lt).trans q0) ((K.p.cell (p:=⟨b,0*3+1,none⟩) DN.p.lt).trans q1) ((K.p.cell (p:=⟨b,0*3+2,none⟩) DN.p.lt).trans q2);have QQ:=U q3;clear q0 q1 q2 q3 bz dW Xq Xr Xs TR aB Cp QP en eo er cQ hH QN;go_upto_region 4 with (fail);refine c6 ?_;refine d4 13 (ag _ rfl rfl (wW _ _)) ?_;go_frame;refine d4 14 (g9 (.slice (some ⟨b,0,none⟩) CS.length cc) ⟨w.heap.size,0,none⟩ (Rg.ae _ _ Tryz.underlying71 B0.p.cell)) ?_;go_frame;refine d4 15 (bD _ _ rfl Tryz.underlying71 od b (CS.length) (cc) (0) rfl rfl (by omega)) ?_;go_frame
  refine d4 16 (Rg.fQ (v:=(.agg #[.int .i64 ((N:Nat):Int),.slice oa on oc,.slice ra rn rc])) _ _ rfl ⟨b,0*3,none⟩ rfl vZ) ?_;go_frame;refine f8 17 (aE 79 _ _ rfl rfl (QL _ _)) ?_;refine (wY (((N:Nat):Int)) (.slice oa on oc) (.slice ra rn rc) w5).mono ?_;rintro e1 zF ⟨cb,hcb,rfl,yn,hb⟩;refine ⟨_,rfl,?_⟩;go_frame;replace HC:=U (HC.p.jj hb);replace RP:=U (RP.p.jj hb);replace b_:=U (b_.p.jj hb);replace RT:=U (RT.p.jj hb);replace B0:=U (B0.p.jj hb);replace B1:=U (B1.p.jj hb);replace B2:=U (B2.p.jj hb);replace B3:=U (B3.p.jj hb);replace BT:=U (BT.p.jj hb);replace C4:=U (C4.p.jj hb);replace C5:=U (C5.p.jj hb);replace TH:=U (TH.p.jj hb);replace K:=U (Rg.acc K.p hb);clear hb;have E0:=U yn.1;have E1:=U yn.2.1;have E2:=U yn.2.2;clear yn vZ;have eS:=yS.p
  have rh:cb<zF.heap.size:=E0.p.lt;have DP:=U (Rg.Kp.aC (M:=fun _=>False) K.p);have QR:Rg.aG (fun z=>z<zF.heap.size/\¬ (z=w.heap.size+2∨z=w.heap.size+3)) zF (.slice oa on oc) (O.map Ma.af):=((Rg.aG.nH QQ.p.1).kp DP.p (fun _ _=>id)).mono (fun z hz=>⟨by have:=K.p.size; omega,by omega⟩);have QT:bg (fun z=>z<zF.heap.size/\¬ (z=w.heap.size+2∨z=w.heap.size+3)) zF (.slice ra rn rc) (R.map (List.map Ma.af)):=((kQ QQ.p.2).kp DP.p (fun _ _=>id)).mono (fun z hz=>⟨by have:=K.p.size; omega,by omega⟩);go_wp2
  refine zx bW cN (Gr.bV DO.p) dE.p (cb:=cb) (by exact rfl) (by exact rfl) (F:=fun z=>z<zF.heap.size/\¬ (z=w.heap.size+2∨z=w.heap.size+3)) (C0:=fun z=>z=w.heap.size+2∨z=w.heap.size+3) ⟨rh,by omega⟩ E0.p.cell E1.p.cell E2.p.cell QR QT (fun z hz=>hz.1) (fun z hz=>hz.2)
   (FsI N (gQ N O R) Pb Fk A (w.heap.size+1) (w.heap.size+2) (w.heap.size+3) (.iface ty vv)) (FsX (gQ N O R) Pb (w.heap.size+2) (w.heap.size+3)) (fun t C W W' h hb=>⟨h.e,h.a.jj hb,h.ct.jj hb,h.c4.jj hb,h.c5.jj hb,h.no⟩) (fun t C W W' h hb=>⟨h.e,h.a.same hb,h.ct.same hb,h.c4.same hb,h.c5.same hb,h.no⟩)
   (fun c W W' h hs=>⟨h.e,by obtain ⟨k,x,g1,g2,g3,g4,g5,g6⟩:=h.g; exact ⟨k,x,g1,g2,g3,g4.same hs,g5.same hs,FI.same g6 hs⟩⟩)
   (fun t C W h z hz=>by rw [h.e] at hz; rcases hz with rfl | rfl <;> first | exact ⟨h.c4.lt,by omega,by omega⟩ | exact ⟨h.c5.lt,by omega,by omega⟩)
   ⟨rfl,TH.p,CL.mk BT.p.c BT.p.lt,C4.p,C5.p,fun i hi=>absurd hi (Nat.not_lt_zero _)⟩ (fun x=>{ tmps:=#[(.agg #[.slice (some ⟨b,0,none⟩) CS.length cc,.slice pa PS.length pc,.slice sa SS.length sc,.slice ta TS.length tc]),.iface ty vv,.pointer (some ⟨w.heap.size,0,none⟩),.pointer (some ⟨(w.heap.size+1),0,none⟩),.pointer (some ⟨(w.heap.size+2),0,none⟩),.pointer (some ⟨(w.heap.size+3),0,none⟩),.int .i64 0,x,(.agg #[.slice (some ⟨b,0,none⟩) CS.length cc,.slice pa PS.length pc,.slice sa SS.length sc,.slice ta TS.length tc]),.int .i64 0,.int .i64 0,.bool false,undef,.pointer (some ⟨w.heap.size,0,none⟩),.slice (some ⟨b,0,none⟩) CS.length cc,.pointer (some ⟨b,0*3,none⟩),(.agg #[.int .i64 ((N:Nat):Int),.slice oa on oc,.slice ra rn rc]),(.func (.func 107) #[] #[.pointer (some ⟨cb,0,none⟩)]),x,undef,undef,undef,undef],defers:=[] }) ?asg ?body ?done ?stop
  case asg =>
   intro n l x W K hK
   gi_wp2
   exact hK
  case body =>
   rintro n l t C x W hi ht DQ hsW;obtain rfl:=hi.e;obtain ⟨xm,xa,xc,hxm,rfl,-⟩:=DQ.len;obtain ⟨F0,recv,hinv,jI⟩:=hi.a.th.m;obtain ⟨q,hq⟩:∃ q,Hid ((gQ N O R).getD t []=q):=⟨_,U rfl⟩;rw [hq.p] at DQ;have GQ:=U (show Gd N q by rw [<- hq.p,List.getD_eq_getElem?_getD,List.getElem?_eq_getElem ht]; exact (Gr.bV DO.p).gd _ (((fI DO.p dE.p).2 _).1 (List.getElem_mem ht)));obtain ⟨pb,uy⟩:∃ z,Hid (Pb q=z):=⟨_,U rfl⟩;have FX:=U DQ;have E8:=U hi.no;have HT:=U ht;have TT:=U hi.a;have TC:=U hi.ct;have D4:=U hi.c4;have D5:=U hi.c5;have KR:=U (Below.refl W.heap.size W);clear hi DQ ht QR QT DP
   gi_upto_region 6 with (fail)
   refine wpIn_region_list ?_;refine Rg.ax (some 19) rfl rfl (fun _ hh=>by cases hh) (g9 (.iface ty vv) ⟨w.heap.size+1,0,none⟩ (qI TC.p.cell)) ?_;go_frame;refine Rg.ax (some 20) rfl rfl (fun _ hh=>by cases hh) (a7 (.slice xa xm xc) _ rfl rfl) ?_;go_frame;refine Rg.oK (some 21) rfl rfl (fun _ hh=>by cases hh) _ _ (wa (recv:=recv) _ _ _ rfl rfl rfl (hinv _ _)) ?_;refine (jI W _ q TT.p.a (FX.p.ints) GQ.p).mono ?_;rintro e1 Xu ⟨rfl,hb⟩;rw [uy.p];refine ⟨_,rfl,?_⟩;go_frame;replace FX:=U (FX.p.jj hb);replace TT:=U (TT.p.jj hb);replace TC:=U (TC.p.jj hb);replace D4:=U (D4.p.jj hb);replace D5:=U (D5.p.jj hb);replace KR:=U (Rg.acc KR.p hb);clear hb
   cases pb
   case false =>
    gi_wp2
    refine ⟨_,⟨rfl,TT.p,TC.p,D4.p,D5.p,fun i hi=>?_⟩,Rg.Kp.aC KR.p,fun z h=>.inl h⟩
    by_cases e:i=t
    ·rw [e,hq.p]; exact uy.p
    ·exact E8.p i (by omega)
   case true =>
    skip
    gi_upto_region 7 with (fail)
    refine wpIn_region_list ?_;refine Rg.ax (some 22) rfl rfl (fun _ hh=>by cases hh) (a7 (.slice xa xm xc) _ rfl rfl) ?_;go_frame;refine Rg.fH none rfl rfl (fun _ hh=>by cases hh) (Rg.ai _ _ _ rfl _ rfl _ rfl (Rg.br _ dC D4.p.c D4.p.f)) ?_;go_frame;refine Rg.fH none rfl rfl (fun _ hh=>by cases hh) (Rg.ai _ _ _ rfl _ rfl _ rfl (bR 0 (D5.p.other (.slice xa xm xc) (b':=w.heap.size+2) (o:=0) (by omega)).c (D5.p.other (.slice xa xm xc) (b':=w.heap.size+2) (o:=0) (by omega)).f)) ?_;go_frame;have y4:=(D4.p.set (.slice xa xm xc)).other (.int .i64 0) (b':=w.heap.size+3) (o:=0) (by omega);have y5:=(D5.p.other (.slice xa xm xc) (b':=w.heap.size+2) (o:=0) (by omega)).set (.int .i64 0);have cU:Rg.Kp (fun z=>z=w.heap.size+2∨z=w.heap.size+3) Xu ((Xu.setCell ⟨w.heap.size+2,0,none⟩ (.slice xa xm xc)).setCell ⟨w.heap.size+3,0,none⟩ (.int .i64 0)):=(Rg.Kp.aO (.inl rfl)).trans (Rg.Kp.aO (.inr rfl)) (fun _ _ h=>h)
    generalize (Xu.setCell ⟨w.heap.size+2,0,none⟩ (.slice xa xm xc)).setCell ⟨w.heap.size+3,0,none⟩ (.int .i64 0)=ep at *
    gi_wp2
    exact ⟨⟨rfl,t,_,HT.p,by rw [hq.p]; exact uy.p,E8.p,y4,y5,by rw [hq.p]; exact Rg.FI.kp FX.p cU (fun _ h=>h)⟩,(Rg.Kp.aC KR.p).trans cU (fun _ _ h=>h)⟩
  case stop =>
   rintro c W ⟨rfl,k,x,g1,g2,g3,g4,g5,g6⟩ hD hk;obtain ⟨xm,xa,xc,hxm,rfl,-⟩:=g6.len;have Nt:=Rg.Kp.jj K.p hk (fun z hz=>by omega);go_wp2;exact RF.leaves w.heap.size [_] _ (by simp) (by intro D fU; simp at fU; subst fU; exact ⟨hD,by omega⟩) (fun W' l1 l2 _=>⟨_,gD rfl _ rfl rfl (Rg.ae _ _ Tryz.underlying27 ((l2 _).trans g4.c)) (l7 ((l2 _).trans g5.c)),Nt.trans l1,.inr ⟨rfl,N,O,R,QO.p,.inr ⟨k,_,g1,g2,g3,rfl,Rg.FI.ints (eZ l2 l1.size g6)⟩⟩⟩)
  case done =>
   rintro C W hi hD hk;have Nt:=Rg.Kp.jj K.p hk (fun z hz=>by omega);have D4:=U hi.c4;have D5:=U hi.c5;have E8:=U hi.no;go_upto_region 8 with (fail);refine c6 ?_;refine Rg.aA none rfl rfl (Rg.ai _ _ _ rfl _ rfl _ rfl (Rg.br _ dC D4.p.c D4.p.f)) ?_;go_frame;refine Rg.aA none rfl rfl (Rg.ai _ _ _ rfl _ rfl _ rfl (bR 18 (D5.p.other (.slice none 0 0) (b':=w.heap.size+2) (o:=0) (by omega)).c (D5.p.other (.slice none 0 0) (b':=w.heap.size+2) (o:=0) (by omega)).f)) ?_;go_frame;have y4:=(D4.p.set (.slice none 0 0)).other (.int .i64 18) (b':=w.heap.size+3) (o:=0) (by omega);have y5:=(D5.p.other (.slice none 0 0) (b':=w.heap.size+2) (o:=0) (by omega)).set (.int .i64 18);have jB:Below w.heap.size w ((W.setCell ⟨w.heap.size+2,0,none⟩ (.slice none 0 0)).setCell ⟨w.heap.size+3,0,none⟩ (.int .i64 18)):=(Nt.setCell (p:=⟨w.heap.size+2,0,none⟩) (show w.heap.size<=w.heap.size+2 by omega) _).setCell (p:=⟨w.heap.size+3,0,none⟩) (show w.heap.size<=w.heap.size+3 by omega) _
   have nr:=(hD.setCell ⟨w.heap.size+2,0,none⟩ (.slice none 0 0)).setCell ⟨w.heap.size+3,0,none⟩ (.int .i64 18);generalize (W.setCell ⟨w.heap.size+2,0,none⟩ (.slice none 0 0)).setCell ⟨w.heap.size+3,0,none⟩ (.int .i64 18)=ep at *;go_wp2;exact RF.leaves w.heap.size [_] _ (by simp) (by intro D fU; simp at fU; subst fU; exact ⟨nr,by omega⟩) (fun W' l1 l2 _=>⟨_,gD rfl _ rfl rfl (Rg.ae _ _ Tryz.underlying27 ((l2 _).trans y4.c)) (l7 ((l2 _).trans y5.c)),jB.trans l1,.inr ⟨rfl,N,O,R,QO.p,.inl ⟨E8.p,rfl⟩⟩⟩)
end
section
open Go.Proofs.Ob
open Go.Proofs.Cm (Gd)
attribute [local irreducible] Go.Calls Go.wpList
structure IB (w:World) (v:Value) (l:List Int):Prop where
 i:Rg.cV maxLen w v l
theorem IB.jj {w w':World} {v:Value} {l:List Int} (h:IB w v l) (hb:Below w.heap.size w w'):IB w' v l:=⟨Rg.cV.jj h.i hb⟩
theorem JO (h1:1<=D) (h2:D<=64) (hl:gs.length<=16) (h:∀ s∈gs,Gd D s):Ma.gM ((D:Nat):Int) (gs.map Ma.af)=0:=by
 unfold Ma.gM;rw [if_pos (by omega),if_pos (by rw [List.length_map]; exact hl)];exact vT h1 h2 h
end
section
open Go.Proofs.Ob
open Go.Proofs.Cm (Gd Gr ak)
attribute [local irreducible] Go.Calls Go.wpList
theorem JP {d:Nat} (hg:∀ s∈gs,Gd d s) (h:ak d (Gr d (·∈gs)) O R) (hA:gN d gs A):eL (O.map Ma.af)=A.length:=by
 rw [gN.len hg h hA,Jv (fun i hi=>h.len i hi) h.jH]
theorem gN.pos {d:Nat} (h:gN d gs A):0<A.length:=List.length_pos_of_mem ((h.2 _).2 .one)
theorem jQ.ou (h1:1<=N) (h2:N<=64) (hg:∀ s∈gs,Gd N s) (hc:ak N (Gr N (·∈gs)) O R):bn ((N:Nat):Int) (O.map Ma.af) (R.map (List.map Ma.af))=0:=tY (Bq h1 h2 hg hc)
theorem o5 (h1:1<=N) (h2:N<=64) (hg:∀ s∈gs,Gd N s) (hc:ak N (Gr N (·∈gs)) O R) {y:List Nat} (gy:Gd N y):fX ((N:Nat):Int) (O.map Ma.af) (R.map (List.map Ma.af)) (Ma.af y)=0 :=
 Bz (jQ.ou h1 h2 hg hc) (Ma.nC (by rw [Ma.az,gy.2]; exact h1) (by rw [Ma.az,gy.2]; exact h2) (Ma.nD gy.1)) (by rw [Ma.az,gy.2])
theorem DR {d:Nat} (hg:∀ s∈gs,Gd d s) (hA:gN d gs A):ak d (Gr d (·∈gs)) (Tv A d) (Tw A d):=Gi hg hA
end
section
open Go.Proofs.Ob
open Go.Proofs.Cm (Gd Gr ak ap lexLt cj St)
attribute [local irreducible] Go.Calls Go.wpList
theorem kx (h1:1<=N) (h2:N<=64) (hg:∀ s∈gs,Gd N s) (hc:ak N (Gr N (·∈gs)) O R) {y:List Nat} (gy:Gd N y) :
  nX ((N:Nat):Int) (O.map Ma.af) (R.map (List.map Ma.af)) (Ma.af y)=true↔Gr N (·∈gs) y:=by
 rw [KZ (o5 h1 h2 hg hc gy),decide_eq_true_iff,<- FD (Gr.bV hg) hc gy];omega
theorem aar (hg:∀ s∈gs,Gd N s) {g:List Nat} (gg:Gd N g) (hn:¬ Gr N (·∈gs) g) {B:List (List Nat)} (hA:gN N gs A) (hB:gN N (gs++[g]) B):2*A.length<=B.length:=by
 have hG:=Gr.bV hg
 have hG2:cj N (Gr N (·∈gs++[g])):=Gr.bV fun s hs=>(List.mem_append.1 hs).elim (hg s) fun h=>by rw [List.mem_singleton] at h; exact h▸gg
 have hm:∀ x,x∈A->Gr N (·∈gs++[g]) x:=fun x hx=>Gr.mono (fun s hs=>List.mem_append.2 (.inl hs)) ((hA.2 x).1 hx);have r_:Gr N (·∈gs++[g]) g:=Gr.gen g (by simp);have ft:∀ x,x∈A->Gd N x:=fun x hx=>hG.gd x ((hA.2 x).1 hx)
 have:=fG (l:=A++A.map fun x=>Ma.ar g x) (m:=B) (by
  rw [List.nodup_append];refine ⟨fZ hA.1,?_,?_⟩
  ·rw [List.nodup_iff_pairwise_ne,List.pairwise_map]
   refine List.Pairwise.imp_of_mem ?_ (List.nodup_iff_pairwise_ne.1 (fZ hA.1));intro x y hx hy Jy e
   apply Jy
   have h1:Ma.ar (Ma.aX g) (Ma.ar g x)=Ma.ar (Ma.aX g) (Ma.ar g y):=by rw [show Ma.ar g x=Ma.ar g y from e]
   rw [<- Cm.mul_assoc (Cm.aH gg) gg,<- Cm.mul_assoc (Cm.aH gg) gg,Cm.inv_mul gg,Cm.one_mul (ft x hx),Cm.one_mul (ft y hy)] at h1;exact h1
  ·intro x hx y hy e
   subst e;obtain ⟨z,hz,e⟩:=List.mem_map.1 hy
   apply hn
   have h1:Ma.ar (Ma.ar g z) (Ma.aX z)=g:=by
    rw [Cm.mul_assoc gg (ft z hz),Cm.lV (ft z hz),Cm.mul_one gg]
   rw [<- h1,e]
   exact hG.mul _ _ ((hA.2 _).1 hx) (hG.inv _ ((hA.2 z).1 hz))) (fun x hx=>by
  rcases List.mem_append.1 hx with hx | hx
  ·exact (hB.2 x).2 (hm x hx)
  ·obtain ⟨z,hz,rfl⟩:=List.mem_map.1 hx
   exact (hB.2 _).2 (hG2.mul _ _ r_ (hm z hz)))
 rw [List.length_append,List.length_map] at this;omega
structure uB (N:Nat) (LL:List (List Nat)) (Pb:List Nat->Bool) (t:Nat) (gs:List (List Nat)):Prop where
 gd:∀ s∈gs,Gd N s
 TU:∀ s∈gs,s∈LL/\Pb s=true
 Xv:∀ i,i<t->i<LL.length->Pb (LL.getD i [])=true->Gr N (·∈gs) (LL.getD i [])
 two:∃ A,gN N gs A/\2 ^ gs.length<=A.length
section
variable {N:Nat} {LL:List (List Nat)} {Pb:List Nat->Bool} {t:Nat} {gs:List (List Nat)}
theorem uB.nil (hc:ak N (Gr N (·∈([]:List (List Nat)))) O R):uB N LL Pb 0 []:=by
 have hg:∀ s∈([]:List (List Nat)),Gd N s:=fun s hs=>by simp at hs
 refine ⟨hg,fun s hs=>by simp at hs,fun i hi=>by omega,_,fI hg hc,?_⟩;have:=List.length_pos_of_mem (((fI hg hc).2 _).2 Gr.one);exact this
theorem uB.skip (h:uB N LL Pb t gs) (hq:t<LL.length->Pb (LL.getD t [])=true->Gr N (·∈gs) (LL.getD t [])):uB N LL Pb (t+1) gs :=
 ⟨h.gd,h.TU,fun i hi hl hp=>by
  by_cases e:i=t
  ·subst e; exact hq hl hp
  ·exact h.Xv i (by omega) hl hp,h.two⟩
theorem uB.push (h:uB N LL Pb t gs) (ht:t<LL.length) (hq:LL.getD t []=q) (gq:Gd N q) (hp:Pb q=true) (hn:¬ Gr N (·∈gs) q) (hc:ak N (Gr N (·∈gs++[q])) O R):uB N LL Pb (t+1) (gs++[q]):=by
 have hg:∀ s∈gs++[q],Gd N s:=fun s hs=>(List.mem_append.1 hs).elim (h.gd s) fun e=>by rw [List.mem_singleton] at e; exact e▸gq
 refine ⟨hg,fun s hs=>?_,fun i hi hl q8=>?_,_,fI hg hc,?_⟩
 ·rcases List.mem_append.1 hs with hs | hs
  ·exact h.TU s hs
  ·rw [List.mem_singleton] at hs
   subst hs;refine ⟨?_,hp⟩;rw [<- hq,List.getD_eq_getElem?_getD,List.getElem?_eq_getElem ht];exact List.getElem_mem ht
 ·by_cases e:i=t
  ·subst e; rw [hq]; exact Gr.gen q (by simp)
  ·exact Gr.mono (fun s hs=>List.mem_append.2 (.inl hs)) (h.Xv i (by omega) hl q8)
 ·obtain ⟨A,hA,h2⟩:=h.two
  have:=aar h.gd gq hn hA (fI hg hc);rw [List.length_append,List.length_singleton,Nat.pow_succ];omega
theorem uB.le {G0:List (List Nat)} (h0:∀ s∈G0,Gd N s) (h:uB N LL Pb t gs) (hL:gN N G0 LL) (hl:LL.length<=5040):gs.length<=12:=by
 obtain ⟨A,hA,h2⟩:=h.two;have h3:=fG (m:=LL) (fZ hA.1) fun x hx=>(hL.2 x).2 (Gr.sub (Gr.bV h0) (fun s hs=>(hL.2 s).1 (h.TU s hs).1) ((hA.2 x).1 hx));refine Nat.not_lt.1 fun hc=>?_;have h4:2 ^ 13<=2 ^ gs.length:=Nat.pow_le_pow_right (by decide) hc;omega
theorem uB.done (h:uB N LL Pb LL.length gs) {x:List Nat} (hx:x∈LL) (hp:Pb x=true):Gr N (·∈gs) x:=by
 obtain ⟨i,hi,rfl⟩:=List.getElem_of_mem hx;have:=h.Xv i hi hi;rw [List.getD_eq_getElem?_getD,List.getElem?_eq_getElem hi] at this;exact this hp
end
theorem BS (h:Rg.aG F w v ll):Rg.aG (fun z=>F z/\z<w.heap.size) w v ll:=by
 obtain ⟨us,⟨a,cap,h1,h2,h3,h4,h5⟩,h6,h7⟩:=h;refine ⟨us,⟨a,cap,h1,h2,h3,h4,fun h0=>?_⟩,h6,fun i p q=>vX (h7 i p q)⟩;obtain ⟨b,o,e1,e2,e3,e4⟩:=h5 h0;exact ⟨b,o,e1,e2,⟨e3,e2⟩,e4⟩
theorem JQ {ll:List (List (List Int))} (h:bg F w v ll):bg (fun z=>F z/\z<w.heap.size) w v ll:=by
 obtain ⟨us,⟨a,cap,h1,h2,h3,h4,h5⟩,h6,h7⟩:=h;refine ⟨us,⟨a,cap,h1,h2,h3,h4,fun h0=>?_⟩,h6,fun i p q=>BS (h7 i p q)⟩;obtain ⟨b,o,e1,e2,e3,e4⟩:=h5 h0;exact ⟨b,o,e1,e2,⟨e3,e2⟩,e4⟩
theorem jR (h1:1<=N) (h2:N<=64) (hl:gs.length<=4096) (hg:∀ s∈gs,Gd N s) (gv:Value) (w:World) (h:Rg.Rows w gv (gs.map Ma.af)) :
  Calls Tryz.prog 42 #[.int .i64 ((N:Nat):Int),gv] w fun e w'=>∃ oa on oc ra rn rc O R,e=.returned (.tuple #[.agg #[.int .i64 ((N:Nat):Int),.slice oa on oc,.slice ra rn rc],.int .i64 0]) /\
   (Rg.aG (fun z=>w.heap.size<=z/\z<w'.heap.size) w' (.slice oa on oc) (O.map Ma.af)/\bg (fun z=>w.heap.size<=z/\z<w'.heap.size) w' (.slice ra rn rc) (R.map (List.map Ma.af))/\ak N (Gr N (·∈gs)) O R)/\Below w.heap.size w w':=by
 refine (MA gv _ _ w h).mono ?_;rw [F8 h1 h2 hl hg]
 rintro e w' ⟨cv,rfl,(⟨hx,_⟩ | ⟨_,n,gs',e1,e2,h3,h4,ov,rv,O,R,rfl,h5,h6,h7⟩),hb⟩
 ·exact absurd rfl hx
 ·have en:n=N:=by omega
  subst en;have eg:gs'=gs:=(dh e2).symm;subst eg;obtain ⟨oa,oc,rfl,-⟩:=(aG.rows h5).shape;obtain ⟨ra,rc,rfl⟩:=(bg.rows h6).shape;exact ⟨oa,_,oc,ra,_,rc,O,R,rfl,⟨BS h5,JQ h6,h7⟩,hb⟩
end
end Go.Proofs.YtpedbljnhnoohaaGreat
