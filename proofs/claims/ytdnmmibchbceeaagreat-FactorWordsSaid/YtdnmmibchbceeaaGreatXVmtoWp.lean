/- Lemmas and contracts on the way to the statement; no condition of their own beyond those written. -/
import Derived.Test.YtdnmmibchbceeaaGreatXMatoVl
import Derived.RangeFuncBox
import Derived.RangeFuncLeaves
import Derived.Shelf.Abstract
import Derived.OwnWalkIn
import Derived.TacticsInMore
import Derived.LoopNIn
import Derived.LoopIn
set_option linter.unusedVariables false
set_option linter.unusedSimpArgs false
set_option maxRecDepth 100000
set_option maxHeartbeats 8000000
variable {w W w' W' w0 X:Go.World} {n B N k mb L m nx j cap D tc base bytes q n₀ gb tk most gc cb:Nat} {v u sv rv ov fv z v1 v2 xv u1 u2 av tv u3 uv:Go.Value} {F M F' F0 M':Nat→Prop} {gs T O A Ks T' Fd:List (List Nat)} {l l1 l2:List Int} {d:Int} {H:List Nat→Prop} {R:List (List (List Nat))} {vs:List Go.Value} {a s:List Nat} {RR:List (List (List Int))} {OO Wd:List (List Int)}
namespace Go.Proofs.YtdnmmibchbceeaaGreat
open Go.RowKit
open Go.Proofs
open Go.Proofs.Cm (Lv Twr trOf)
attribute [local irreducible] Go.Calls
theorem Vmcl0 (args:Array Value) (w:World):(callFunc 146 args).run Tryz.prog w=.ok (.enter 146 args) w:=by kernel_rfl
theorem exec_nilT {o:Oper} {a:Act} (x y:Operand) (ho:o.op=.binOp .eql 30 x y 30) (hx:a.eval x=.slice none 0 0) (hy:a.eval y=.slice none 0 0):(execOp a.eval o).run Tryz.prog w=.ok (.value (.bool true)) w:=by
 have h1:(binOp .eql 30 (.slice none 0 0) (.slice none 0 0)).run Tryz.prog w=.ok (.bool true) w:=by kernel_rfl
 have hg:(eqGuard .eql 30 x y (.slice none 0 0) (.slice none 0 0)).run Tryz.prog w=.ok () w:=by
  simp [eqGuard]
 unfold execOp;simp only [ho,hx,hy,Sem.run_bind,Sem.run_pure,hg,h1,Result.andThen_ok]
theorem exec_nilF {o:Oper} {a:Act} {ad:Addr} {c:Nat} (x y:Operand) (ho:o.op=.binOp .eql 30 x y 30) (hx:a.eval x=.slice (some ad) n c) (hy:a.eval y=.slice none 0 0):(execOp a.eval o).run Tryz.prog w=.ok (.value (.bool false)) w:=by
 have h1:(binOp .eql 30 (.slice (some ad) n c) (.slice none 0 0)).run Tryz.prog w=.ok (.bool false) w:=by kernel_rfl
 have hg:(eqGuard .eql 30 x y (.slice (some ad) n c) (.slice none 0 0)).run Tryz.prog w=.ok () w:=by
  simp [eqGuard]
 unfold execOp;simp only [ho,hx,hy,Sem.run_bind,Sem.run_pure,hg,h1,Result.andThen_ok]
theorem TowAt.byS {T:Twr} {V:Nat→LV} (h:TowAt F L n w T V) {i p:Nat} (hi:i<n) (hp:p<64) {u:List Nat} (hu:trOf T i p=some u) (gu:Cm.Gd n u) (hn:1≤n):∃ b o c,(V i).b p=.slice (some ⟨b,o,none⟩) n c∧FP F w (.slice (some ⟨b,o,none⟩) n c) (Ma.invN u):=by
 have h1:=((h.lv i hi).some_ p u hp hu).2;obtain ⟨b,o,c,e,_⟩:=h1.shape (by rw [(Cm.gd_inv gu).2]; exact hn);rw [(Cm.gd_inv gu).2] at e;exact ⟨b,o,c,e,by rw [← e]; exact h1⟩
theorem TowAt.toS {T:Twr} {V:Nat→LV} (h:TowAt F L n w T V) {i p:Nat} (hi:i<n) (hp:p<64) {u:List Nat} (hu:trOf T i p=some u) (gu:Cm.Gd n u) (hn:1≤n):∃ b o c,(V i).t p=.slice (some ⟨b,o,none⟩) n c∧FP F w (.slice (some ⟨b,o,none⟩) n c) u:=by
 have h1:=((h.lv i hi).some_ p u hp hu).1;obtain ⟨b,o,c,e,_⟩:=h1.shape (by rw [gu.2]; exact hn);rw [gu.2] at e;exact ⟨b,o,c,e,by rw [← e]; exact h1⟩
theorem FP.shape' {p:List Nat} (h:FP F w v p) (gp:Cm.Gd n p) (hn:1≤n):∃ b o c,v=.slice (some ⟨b,o,none⟩) n c:=by
 obtain ⟨b,o,c,e,_⟩:=h.shape (by rw [gp.2]; exact hn);rw [gp.2] at e;exact ⟨b,o,c,e⟩
theorem FP.ap {F:Nat→Prop} {n:Nat} {w:World} {b o m c:Nat} {p:List Nat} (h:FP F w (.slice (some ⟨b,o,none⟩) m c) p) (gp:Cm.Gd n p) {i:Nat} (hi:i<n):CF F w b (o+i) (.int .i64 ((Cm.ap p i:Nat):Int)):=h.cell (by rw [gp.2]; exact hi)
theorem sift_any {tb:Nat} {T:Twr} {V:Nat→LV} (hT:TowAt F L n w T V) (hc0:CF F w tb 0 (.int .i64 ((n:Nat):Int))) (hc1:CF F w tb 1 (.slice (some ⟨L,0,none⟩) n n)) (hn1:1≤n) (hn2:n≤64) {x:List Nat} {i0:Nat} (hx:FP F w xv x) (gx:Cm.Gd n x) (hi0:i0≤n) (hfx:Cm.Fx i0 x) (hr:Cm.Rp n i0 (trOf T)) :
  Calls Tryz.prog 141 #[.pointer (some ⟨tb,0,none⟩),xv,.int .i64 ((i0:Nat):Int)] w fun e w'=>∃ F' rv,e=.returned (.tuple #[.int .i64 (((Cm.sfP n (trOf T) (n - i0) x).1:Nat):Int),rv])∧KG F w F' w'∧TowAt F' L n w' T V∧FP F' w' rv (Cm.sfP n (trOf T) (n - i0) x).2∧Below w.heap.size w w':=by
 obtain ⟨xb0,xo0,xc0,rfl⟩:=hx.shape' gx hn1;have K:=ι (KG.refl hT.Flt);have HT:=ι hT;have C0:=ι hc0;have C1:=ι hc1;have X:=ι hx;have HR:=ι hr;obtain ⟨A,hA⟩:∃ A,Hid (A=Cm.sfP n (trOf T) (n - i0) x):=⟨_,ι rfl⟩;rw [← hA.out];have KB:=ι (Below.refl w.heap.size w);have hg0:=hc0.cell;have hS0:=ι hA.out.symm;clear hT hc0 hc1 hx hr
 go_enter Tryz.func141,Tryz.ntmps141
 go_wp2
 go_loopw [1,8] (fun yv iv wr=>∃ (i:Nat) (y:List Nat) (F1:Nat→Prop),i0≤i∧i≤n∧iv=.int .i64 i∧Hid (FP F1 wr yv y)∧Hid (TowAt F1 L n wr T V)∧Hid (CF F1 wr tb 0 (.int .i64 ((n:Nat):Int)))∧Hid (CF F1 wr tb 1 (.slice (some ⟨L,0,none⟩) n n))∧Hid (KG F w F1 wr)∧Hid (Below w.heap.size w wr)∧Hid (Cm.Gd n y)∧Hid (Cm.Fx i y)∧Hid (Cm.sfP n (trOf T) (n - i) y=A)) (fun _ iv _=>n - (intOf iv).toNat)
 case atStart=>exact ⟨i0,x,F,Nat.le_refl _,hi0,rfl,X,HT,C0,C1,K,KB,ι gx,ι hfx,hS0⟩
 case round =>
  clear X HT C0 C1 K KB hg0 hS0 hfx gx;obtain ⟨i,y,F,hi1,hi2,rfl,X,HT,C0,C1,K,KB,GY,FY,HS⟩:=hrel;have hg0:=C0.out.cell
  by_cases hin:i<n
  ·have hiN:(i:Int)<(n:Int):=by omega
   obtain ⟨xb,xo,xc,rfl⟩:=X.out.shape' GY.out hn1;have hqn:=Cm.ap_lt GY.out hin;obtain ⟨q,hq⟩:∃ q:Nat,Hid (q=Cm.ap y i):=⟨_,ι rfl⟩;rw [← hq.out] at hqn;have CX:=ι (show CF F wr xb (xo+i) (.int .i64 ((q:Nat):Int)) by rw [hq.out]; exact X.out.ap GY.out hin)
   have hq64:q<64:=by omega
   have HIN:=ι hin
   cases htr:trOf T i q with
   | none =>
    have hby:=((HT.out.lv i hin).none_ q hq64 htr).2;have CB:=ι (show wr.cell? ⟨L,i*194+66+q,none⟩=some (.slice none 0 0) by rw [getBy HT.out hin hq64 (by omega),hby])
    have HE:=ι (show A=(i,y) by
     rw [← HS.out]
     have e1:n - i=(n - i - 1)+1:=by omega
     rw [e1,Cm.sfP_none]
     ·rw [show n - (n - i - 1+1)=i by omega]
     ·rw [show n - (n - i - 1+1)=i by omega,← hq.out]; exact htr)
    have hLlt:=ι HT.out.lt;clear hby htr;go_upto_region 4 with (fail);have hV1:Below wr.heap.size wr wr.drew:=(Below.refl _ _).drew;replace HT:=ι (HT.out.up hV1);replace KB:=ι (Rg.acc KB.out hV1);replace CB:=ι ((hV1.cell (p:=⟨L,i*194+66+q,none⟩) hLlt.out).trans CB.out);replace hLlt:=ι (Nat.lt_of_lt_of_le hLlt.out hV1.size);clear hV1;have hV0:Below wr.heap.size wr wr.drew:=(Below.refl _ _).drew;replace X:=ι (X.out.up hV0);replace C0:=ι (C0.out.up hV0);replace C1:=ι (C1.out.up hV0);replace CX:=ι (CX.out.up hV0);replace K:=ι (K.out.up hV0);generalize Fup F wr wr.drew=F1 at *;clear hV0;refine Rg.Any.begin (S:=Rg.Both 13 (fun _=>True) (fun W=>Below wr.drew.heap.size wr.drew W)) mix ?_;generalize wr.drew=w1 at *;have hS:∀ (l:Array Bool) W,Below w1.heap.size w1 W→Rg.Both 13 (fun _=>True) (fun W=>Below w1.heap.size w1 W) l W:=fun l W h=>⟨.inr trivial,h⟩
    have hI:Below w1.heap.size w1 w1:=Below.refl _ _;refine Rg.tm 0 13 (.pointer (some ⟨tb,0,none⟩)) 19 (hS _ _ hI) ?_;go_frame;refine Rg.tg 1 13 (.pointer (some ⟨tb,0,none⟩)) 20 rfl rfl (.inl ⟨rfl,fun w _=>exec_nil _ rfl rfl⟩) (hS _ _ hI) ?_;go_frame;refine Rg.tg 2 13 (.pointer (some ⟨tb,1,none⟩)) 21 rfl rfl (.inl ⟨rfl,fun w _=>exec_field _ rfl rfl (towF1 _ _)⟩) (hS _ _ hI) ?_;go_frame;refine Rg.tg 3 13 (.slice (some ⟨L,0,none⟩) n n) 22 rfl rfl (Rg.yc ⟨tb,1,none⟩ (fun W hW=>Rg.run_loadSl _ _ Tryz.underlying168 ((Below.cell (p:=⟨tb,1,none⟩) hW C1.out.lt).trans C1.out.cell))) (hS _ _ hI) ?_;go_frame;refine Rg.tm 4 13 (.int .i64 ((i:Nat):Int)) 23 (hS _ _ hI) ?_;go_frame;refine Rg.tm 5 13 (.slice (some ⟨xb,xo,none⟩) n xc) 24 (hS _ _ hI) ?_;go_frame;refine Rg.tm 6 13 (.int .i64 ((i:Nat):Int)) 25 (hS _ _ hI) ?_;go_frame;refine Rg.tg 7 13 (.pointer (some ⟨xb,xo+i,none⟩)) 26 rfl rfl (Rg.yields_index slPerm _ _ rfl rfl xb (xo) (n) xc (i) rfl rfl HIN.out) (hS _ _ hI) ?_;go_frame
    refine Rg.tg 8 13 (.int .i64 ((q:Nat):Int)) 27 rfl rfl (Rg.yc ⟨xb,xo+i,none⟩ (fun W hW=>run_loadInt ((Below.cell (p:=⟨xb,xo+i,none⟩) hW CX.out.lt).trans CX.out.cell))) (hS _ _ hI) ?_;go_frame;refine Rg.tg 9 13 (.pointer (some ⟨L,i*194,none⟩)) 28 rfl rfl (.inl ⟨rfl,fun w _=>exec_indexZ0 _ _ rfl Tryz.underlying168 szLevel L (n) (n) (i) rfl rfl HIN.out⟩) (hS _ _ hI) ?_;go_frame;refine Rg.tg 10 13 (.pointer (some ⟨L,i*194+66,none⟩)) 29 rfl rfl (.inl ⟨rfl,fun w _=>exec_field _ rfl rfl (lvF3 _ _ _)⟩) (hS _ _ hI) ?_;go_frame;refine Rg.tg 11 13 (.pointer (some ⟨L,i*194+66+q,none⟩)) 30 rfl rfl (.inl ⟨rfl,fun w _=>exec_indexArr _ _ rfl Tryz.underlying175 szP L (i*194+66) (q) rfl rfl hq64⟩) (hS _ _ hI) ?_;go_frame;refine Rg.tg 12 13 (.slice none 0 0) 31 rfl rfl (Rg.yc ⟨L,i*194+66+q,none⟩ (fun W hW=>Rg.run_loadSl _ _ Tryz.underlying30 ((Below.cell (p:=⟨L,i*194+66+q,none⟩) hW hLlt.out).trans CB.out))) (hS _ _ hI) ?_;go_frame
    refine Rg.aR 13 9 rfl rfl (Rg.xa (.slice none 0 0) _ rfl rfl) (hS _ _ hI) ?_;go_frame;refine Rg.Any.done (by kernel_rfl) ?_ _;clear hS hI;go_upto_region 5 with (fail);refine Rg.wl ?_;refine Rg.lm 32 (.slice none 0 0) ?_;go_frame;refine Rg.lr 33 (exec_nilT _ _ rfl rfl rfl) ?_;go_frame;go_wp2
    go_ret2
    exact ⟨_,.slice (some ⟨xb,xo,none⟩) n xc,by rw [HE.out]; rfl,K.out,HT.out,by rw [HE.out]; exact X.out,KB.out⟩
   | some u =>
    have gu:=HR.out.gd i q u hi1 hin htr;obtain ⟨bb,bo,bc,hbv,hbp⟩:=HT.out.byS hin hq64 htr gu hn1
    have hHS:Cm.sfP n (trOf T) (n - (i+1)) (Ma.mulN y (Ma.invN u))=A:=by
     rw [← HS.out]
     have e1:n - i=(n - i - 1)+1:=by omega
     rw [e1,Cm.sfP_some (u:=u) (by rw [show n - (n - i - 1+1)=i by omega,← hq.out]; exact htr),show n - i - 1=n - (i+1) by omega]
    obtain ⟨hgy2,hfy2⟩:=Cm.step_fx HR.out hi1 hin GY.out FY.out (by rw [← hq.out]; exact htr);have BP:=ι hbp;have GI:=ι (Cm.gd_inv gu);have HS2:=ι hHS;have GY2:=ι hgy2;have FY2:=ι hfy2;have CB:=ι (show wr.cell? ⟨L,i*194+66+q,none⟩=some (.slice (some ⟨bb,bo,none⟩) n bc) by rw [getBy HT.out hin hq64 (by omega),hbv])
    have hone:=ι (show q=i→Ma.mulN y (Ma.invN u)=y from fun e=>by
     have h1:=HR.out.self i hi1 hin;rw [e,h1] at htr
     cases htr
     rw [Cm.inv_one,Cm.mul_one GY.out])
    have hLlt:=ι HT.out.lt;clear hbv hbp gu hHS hgy2 hfy2 htr HS
    by_cases hqi:q=i
    ·have HY:=ι (hone.out hqi)
     have hqe:(q:Int)=(i:Int):=by omega
     clear hqi hone;go_upto_region 4 with (fail);have hV1:Below wr.heap.size wr wr.drew:=(Below.refl _ _).drew;replace KB:=ι (Rg.acc KB.out hV1);replace CB:=ι ((hV1.cell (p:=⟨L,i*194+66+q,none⟩) hLlt.out).trans CB.out);replace hLlt:=ι (Nat.lt_of_lt_of_le hLlt.out hV1.size);clear hV1;have hV0:Below wr.heap.size wr wr.drew:=(Below.refl _ _).drew;replace X:=ι (X.out.up hV0);replace HT:=ι (HT.out.up hV0);replace C0:=ι (C0.out.up hV0);replace C1:=ι (C1.out.up hV0);replace CX:=ι (CX.out.up hV0);replace BP:=ι (BP.out.up hV0);replace K:=ι (K.out.up hV0);generalize Fup F wr wr.drew=F1 at *;clear hV0;refine Rg.Any.begin (S:=Rg.Both 13 (fun _=>True) (fun W=>Below wr.drew.heap.size wr.drew W)) mix ?_;generalize wr.drew=w1 at *;have hS:∀ (l:Array Bool) W,Below w1.heap.size w1 W→Rg.Both 13 (fun _=>True) (fun W=>Below w1.heap.size w1 W) l W:=fun l W h=>⟨.inr trivial,h⟩
     have hI:Below w1.heap.size w1 w1:=Below.refl _ _;refine Rg.tm 0 13 (.pointer (some ⟨tb,0,none⟩)) 19 (hS _ _ hI) ?_;go_frame;refine Rg.tg 1 13 (.pointer (some ⟨tb,0,none⟩)) 20 rfl rfl (.inl ⟨rfl,fun w _=>exec_nil _ rfl rfl⟩) (hS _ _ hI) ?_;go_frame;refine Rg.tg 2 13 (.pointer (some ⟨tb,1,none⟩)) 21 rfl rfl (.inl ⟨rfl,fun w _=>exec_field _ rfl rfl (towF1 _ _)⟩) (hS _ _ hI) ?_;go_frame;refine Rg.tg 3 13 (.slice (some ⟨L,0,none⟩) n n) 22 rfl rfl (Rg.yc ⟨tb,1,none⟩ (fun W hW=>Rg.run_loadSl _ _ Tryz.underlying168 ((Below.cell (p:=⟨tb,1,none⟩) hW C1.out.lt).trans C1.out.cell))) (hS _ _ hI) ?_;go_frame;refine Rg.tm 4 13 (.int .i64 ((i:Nat):Int)) 23 (hS _ _ hI) ?_;go_frame;refine Rg.tm 5 13 (.slice (some ⟨xb,xo,none⟩) n xc) 24 (hS _ _ hI) ?_;go_frame;refine Rg.tm 6 13 (.int .i64 ((i:Nat):Int)) 25 (hS _ _ hI) ?_;go_frame;refine Rg.tg 7 13 (.pointer (some ⟨xb,xo+i,none⟩)) 26 rfl rfl (Rg.yields_index slPerm _ _ rfl rfl xb (xo) (n) xc (i) rfl rfl HIN.out) (hS _ _ hI) ?_;go_frame
     refine Rg.tg 8 13 (.int .i64 ((q:Nat):Int)) 27 rfl rfl (Rg.yc ⟨xb,xo+i,none⟩ (fun W hW=>run_loadInt ((Below.cell (p:=⟨xb,xo+i,none⟩) hW CX.out.lt).trans CX.out.cell))) (hS _ _ hI) ?_;go_frame;refine Rg.tg 9 13 (.pointer (some ⟨L,i*194,none⟩)) 28 rfl rfl (.inl ⟨rfl,fun w _=>exec_indexZ0 _ _ rfl Tryz.underlying168 szLevel L (n) (n) (i) rfl rfl HIN.out⟩) (hS _ _ hI) ?_;go_frame;refine Rg.tg 10 13 (.pointer (some ⟨L,i*194+66,none⟩)) 29 rfl rfl (.inl ⟨rfl,fun w _=>exec_field _ rfl rfl (lvF3 _ _ _)⟩) (hS _ _ hI) ?_;go_frame;refine Rg.tg 11 13 (.pointer (some ⟨L,i*194+66+q,none⟩)) 30 rfl rfl (.inl ⟨rfl,fun w _=>exec_indexArr _ _ rfl Tryz.underlying175 szP L (i*194+66) (q) rfl rfl hq64⟩) (hS _ _ hI) ?_;go_frame;refine Rg.tg 12 13 (.slice (some ⟨bb,bo,none⟩) n bc) 31 rfl rfl (Rg.yc ⟨L,i*194+66+q,none⟩ (fun W hW=>Rg.run_loadSl _ _ Tryz.underlying30 ((Below.cell (p:=⟨L,i*194+66+q,none⟩) hW hLlt.out).trans CB.out))) (hS _ _ hI) ?_;go_frame
     refine Rg.aR 13 9 rfl rfl (Rg.xa (.slice (some ⟨bb,bo,none⟩) n bc) _ rfl rfl) (hS _ _ hI) ?_;go_frame;refine Rg.Any.done (by kernel_rfl) ?_ _;clear hS hI;go_upto_region 5 with (fail);refine Rg.wl ?_;refine Rg.lm 32 (.slice (some ⟨bb,bo,none⟩) n bc) ?_;go_frame;refine Rg.lr 33 (exec_nilF _ _ rfl rfl rfl) ?_;go_frame;go_upto_region 7 with (fail);refine Rg.wl ?_;refine Rg.lm 36 (.slice (some ⟨xb,xo,none⟩) n xc) ?_;go_frame;refine Rg.lm 37 (.int .i64 ((i:Nat):Int)) ?_;go_frame;refine Rg.lr 38 (exec_indexS slPerm _ _ rfl xb (xo) (n) xc (i) rfl rfl HIN.out) ?_;go_frame;refine Rg.lr 39 (Rg.lo (.int .i64 ((q:Nat):Int)) ⟨xb,xo+i,none⟩ (run_loadInt CX.out.cell)) ?_;go_frame;refine Rg.lm 40 (.int .i64 ((i:Nat):Int)) ?_;go_frame;refine Rg.lr 41 (Rg.bn (.bool false) .neq (h:=b_neqB _ Rg.dF)) ?_;go_frame;have hg0:=C0.out.cell;go_wp2
     go_roundw
     case rel=>exact ⟨i+1,y,_,by omega,by omega,by go_num,X,HT,C0,C1,K,KB,GY,ι (by have:=FY2.out; rwa [HY.out] at this),ι (by have:=HS2.out; rwa [HY.out] at this)⟩
     case measure=>simp [intOf]; omega
    ·have hqe:¬ (q:Int)=(i:Int):=by omega
     clear hqi hone;go_upto_region 4 with (fail);have hV1:Below wr.heap.size wr wr.drew:=(Below.refl _ _).drew;replace KB:=ι (Rg.acc KB.out hV1);replace CB:=ι ((hV1.cell (p:=⟨L,i*194+66+q,none⟩) hLlt.out).trans CB.out);replace hLlt:=ι (Nat.lt_of_lt_of_le hLlt.out hV1.size);clear hV1;have hV0:Below wr.heap.size wr wr.drew:=(Below.refl _ _).drew;replace X:=ι (X.out.up hV0);replace HT:=ι (HT.out.up hV0);replace C0:=ι (C0.out.up hV0);replace C1:=ι (C1.out.up hV0);replace CX:=ι (CX.out.up hV0);replace BP:=ι (BP.out.up hV0);replace K:=ι (K.out.up hV0);generalize Fup F wr wr.drew=F1 at *;clear hV0;refine Rg.Any.begin (S:=Rg.Both 13 (fun _=>True) (fun W=>Below wr.drew.heap.size wr.drew W)) mix ?_;generalize wr.drew=w1 at *;have hS:∀ (l:Array Bool) W,Below w1.heap.size w1 W→Rg.Both 13 (fun _=>True) (fun W=>Below w1.heap.size w1 W) l W:=fun l W h=>⟨.inr trivial,h⟩
     have hI:Below w1.heap.size w1 w1:=Below.refl _ _;refine Rg.tm 0 13 (.pointer (some ⟨tb,0,none⟩)) 19 (hS _ _ hI) ?_;go_frame;refine Rg.tg 1 13 (.pointer (some ⟨tb,0,none⟩)) 20 rfl rfl (.inl ⟨rfl,fun w _=>exec_nil _ rfl rfl⟩) (hS _ _ hI) ?_;go_frame;refine Rg.tg 2 13 (.pointer (some ⟨tb,1,none⟩)) 21 rfl rfl (.inl ⟨rfl,fun w _=>exec_field _ rfl rfl (towF1 _ _)⟩) (hS _ _ hI) ?_;go_frame;refine Rg.tg 3 13 (.slice (some ⟨L,0,none⟩) n n) 22 rfl rfl (Rg.yc ⟨tb,1,none⟩ (fun W hW=>Rg.run_loadSl _ _ Tryz.underlying168 ((Below.cell (p:=⟨tb,1,none⟩) hW C1.out.lt).trans C1.out.cell))) (hS _ _ hI) ?_;go_frame;refine Rg.tm 4 13 (.int .i64 ((i:Nat):Int)) 23 (hS _ _ hI) ?_;go_frame;refine Rg.tm 5 13 (.slice (some ⟨xb,xo,none⟩) n xc) 24 (hS _ _ hI) ?_;go_frame;refine Rg.tm 6 13 (.int .i64 ((i:Nat):Int)) 25 (hS _ _ hI) ?_;go_frame;refine Rg.tg 7 13 (.pointer (some ⟨xb,xo+i,none⟩)) 26 rfl rfl (Rg.yields_index slPerm _ _ rfl rfl xb (xo) (n) xc (i) rfl rfl HIN.out) (hS _ _ hI) ?_;go_frame
     refine Rg.tg 8 13 (.int .i64 ((q:Nat):Int)) 27 rfl rfl (Rg.yc ⟨xb,xo+i,none⟩ (fun W hW=>run_loadInt ((Below.cell (p:=⟨xb,xo+i,none⟩) hW CX.out.lt).trans CX.out.cell))) (hS _ _ hI) ?_;go_frame;refine Rg.tg 9 13 (.pointer (some ⟨L,i*194,none⟩)) 28 rfl rfl (.inl ⟨rfl,fun w _=>exec_indexZ0 _ _ rfl Tryz.underlying168 szLevel L (n) (n) (i) rfl rfl HIN.out⟩) (hS _ _ hI) ?_;go_frame;refine Rg.tg 10 13 (.pointer (some ⟨L,i*194+66,none⟩)) 29 rfl rfl (.inl ⟨rfl,fun w _=>exec_field _ rfl rfl (lvF3 _ _ _)⟩) (hS _ _ hI) ?_;go_frame;refine Rg.tg 11 13 (.pointer (some ⟨L,i*194+66+q,none⟩)) 30 rfl rfl (.inl ⟨rfl,fun w _=>exec_indexArr _ _ rfl Tryz.underlying175 szP L (i*194+66) (q) rfl rfl hq64⟩) (hS _ _ hI) ?_;go_frame;refine Rg.tg 12 13 (.slice (some ⟨bb,bo,none⟩) n bc) 31 rfl rfl (Rg.yc ⟨L,i*194+66+q,none⟩ (fun W hW=>Rg.run_loadSl _ _ Tryz.underlying30 ((Below.cell (p:=⟨L,i*194+66+q,none⟩) hW hLlt.out).trans CB.out))) (hS _ _ hI) ?_;go_frame
     refine Rg.aR 13 9 rfl rfl (Rg.xa (.slice (some ⟨bb,bo,none⟩) n bc) _ rfl rfl) (hS _ _ hI) ?_;go_frame;refine Rg.Any.done (by kernel_rfl) ?_ _;clear hS hI;go_upto_region 5 with (fail);refine Rg.wl ?_;refine Rg.lm 32 (.slice (some ⟨bb,bo,none⟩) n bc) ?_;go_frame;refine Rg.lr 33 (exec_nilF _ _ rfl rfl rfl) ?_;go_frame;go_upto_region 7 with (fail);refine Rg.wl ?_;refine Rg.lm 36 (.slice (some ⟨xb,xo,none⟩) n xc) ?_;go_frame;refine Rg.lm 37 (.int .i64 ((i:Nat):Int)) ?_;go_frame;refine Rg.lr 38 (exec_indexS slPerm _ _ rfl xb (xo) (n) xc (i) rfl rfl HIN.out) ?_;go_frame;refine Rg.lr 39 (Rg.lo (.int .i64 ((q:Nat):Int)) ⟨xb,xo+i,none⟩ (run_loadInt CX.out.cell)) ?_;go_frame;refine Rg.lm 40 (.int .i64 ((i:Nat):Int)) ?_;go_frame;refine Rg.lr 41 (Rg.bn (.bool true) .neq (h:=b_neqB _ Rg.dT)) ?_;go_frame;clear hg0;go_upto_region 8 with (fail);refine Rg.wl ?_;refine Rg.lm 42 (.slice (some ⟨xb,xo,none⟩) n xc) ?_;go_frame
     refine Rg.lm 43 (.slice (some ⟨bb,bo,none⟩) n bc) ?_;go_frame;refine Rg.lk 44 (exec_fn 146 _ _ _ rfl rfl rfl (Vmcl0 _ _)) ?_;refine (chMul_f X.out BP.out GY.out GI.out hn1 hn2).mono ?_;rintro e1 w2 ⟨mv,rfl,hmv,hb⟩;replace KB:=ι (Rg.acc KB.out hb);refine ⟨_,rfl,?_⟩;go_frame;replace X:=ι (X.out.up hb);replace HT:=ι (HT.out.up hb);replace C0:=ι (C0.out.up hb);replace C1:=ι (C1.out.up hb);replace CX:=ι (CX.out.up hb);replace BP:=ι (BP.out.up hb);replace K:=ι (K.out.up hb);have MV:=ι hmv;generalize Fup F1 w1 w2=F2 at *;clear hb;refine Rg.la 1 (mv) ?_;go_frame;have hg0:=C0.out.cell;go_wp2
     go_roundw
     case rel=>exact ⟨i+1,_,_,by omega,by omega,by go_num,MV,HT,C0,C1,K,KB,GY2,FY2,HS2⟩
     case measure=>simp [intOf]; omega
  ·obtain rfl:i=n:=by omega
   have HE:=ι (show A=(i,y) by rw [← HS.out,Nat.sub_self]; rfl);clear HS;go_wp2
   go_ret2
   exact ⟨_,u1,by rw [HE.out]; rfl,K.out,HT.out,by rw [HE.out]; exact X.out,KB.out⟩
end Go.Proofs.YtdnmmibchbceeaaGreat

namespace Go.Proofs.Cm
open Go.Proofs
def Full (n:Nat) (T:Twr) (j:Nat):Prop:=Lvl n T j∧Cmp T j∧(T j).gens.length≤pot n T j
structure CInv (n i:Nat) (T T1:Twr):Prop where
 ext:Ext T T1
 low:∀ j,j<i→T1 j=T j
 gens:(T1 i).gens=(T i).gens
 up:∀ j,i<j→j<n→Full n T1 j
 lvl:Lvl n T1 i
def Done (T:Twr) (i k:Nat):Prop:=∀ m (h:m<(T i).orb.length),m<k→(T i).tried (T i).orb[m]=(T i).gens.length
theorem CInv.refl {n i:Nat} {T:Twr} (h:Lvl n T i) (hu:∀ j,i<j→j<n→Full n T j):CInv n i T T:=⟨Ext.refl T,fun _ _=>rfl,rfl,hu,h⟩
theorem CInv.all {i:Nat} {T T1:Twr} (h:CInv n i T T1):∀ j,i≤j→j<n→Lvl n T1 j:=fun j h1 h2=>by
 by_cases e:j=i
 ·subst e; exact h.lvl
 ·exact (h.up j (by omega) h2).1
theorem Done.cmp {i:Nat} {T:Twr} (h:Done T i (T i).orb.length) (hl:Lvl n T i):Cmp T i:=fun q u hu=>by
 obtain ⟨m,hm,rfl⟩:=List.getElem_of_mem ((hl.orb q).2 ⟨u,hu⟩);exact h m hm hm
theorem Full.ext {n:Nat} {T T':Twr} {j:Nat} (h:Full n T j) (hx:Ext T T') (e:T' j=T j) (e2:j+1<n→T' (j+1)=T (j+1)):Full n T' j:=by
 obtain ⟨h1,h2,h3⟩:=h;refine ⟨h1.ext e hx fun h0 s hs=>?_,h2.ext e,by rw [e]; exact Nat.le_trans h3 (pot_mono hx j)⟩;rw [e2 h0] at hs;exact h1.low h0 s hs
theorem CInv.found {i:Nat} {T T1:Twr} (h:CInv n i T T1) (hd:Done T1 i k) (hin:i<n) {uq:List Nat} (hk:(T1 i).tried q<(T1 i).gens.length) (hs:(T1 i).gens[(T1 i).tried q]=s) (huq:(T1 i).rep q=some uq) (hp:(T1 i).rep (ap s q)=none)
  (hkq:∃ h:k<(T1 i).orb.length,(T1 i).orb[k]=q) :
  CInv n i T (find (tick T1 i q) i (ap s q) (Ma.mulN uq s))∧Done (find (tick T1 i q) i (ap s q) (Ma.mulN uq s)) i k∧((find (tick T1 i q) i (ap s q) (Ma.mulN uq s) i).tried q=(T1 i).tried q+1)∧(find (tick T1 i q) i (ap s q) (Ma.mulN uq s) i).gens=(T1 i).gens ∧
   ∃ h:k<(find (tick T1 i q) i (ap s q) (Ma.mulN uq s) i).orb.length,(find (tick T1 i q) i (ap s q) (Ma.mulN uq s) i).orb[k]=q:=by
 have hx:Ext T1 (find (tick T1 i q) i (ap s q) (Ma.mulN uq s)):=(tick_ext T1 i q).trans (find_ext (by rw [tick_at]; exact hp))
 have ne:∀ j,j≠i→find (tick T1 i q) i (ap s q) (Ma.mulN uq s) j=T1 j:=fun j hj=>by rw [find_ne hj,tick_ne hj]
 have ei:find (tick T1 i q) i (ap s q) (Ma.mulN uq s) i={ gens:=(T1 i).gens,orb:=(T1 i).orb++[ap s q],rep:=fun z=>if z=ap s q then some (Ma.mulN uq s) else (T1 i).rep z,tried:=fun p=>if p=q then (T1 i).tried p+1 else (T1 i).tried p }:=by rw [find_at',tick_at]
 obtain ⟨hko,hkq⟩:=hkq;refine ⟨⟨h.ext.trans hx,fun j hj=>by rw [ne j (by omega)]; exact h.low j hj,by rw [ei]; exact h.gens,fun j h1 h2=>(h.up j h1 h2).ext hx (ne j (by omega)) (fun _=>ne _ (by omega)),find_lvl h.all hin hk hs huq hp⟩,?_,by rw [ei]; simp,by rw [ei],?_⟩
 ·intro m hm hmk
  have hm':m<(T1 i).orb.length:=by omega
  have e1:(find (tick T1 i q) i (ap s q) (Ma.mulN uq s) i).orb[m]=(T1 i).orb[m]:=by simp only [ei]; rw [List.getElem_append_left hm']
  rw [e1]
  have hne:(T1 i).orb[m]≠q:=by
   rw [← hkq];intro e;have:=(List.getElem_inj h.lvl.nd).1 e;omega
  simp only [ei];rw [if_neg hne];exact hd m hm' hmk
 ·have hk2:k<((T1 i).orb++[ap s q]).length:=by simp; omega
  refine ⟨by rw [ei]; exact hk2,?_⟩;simp only [ei];rw [List.getElem_append_left hko]; exact hkq
theorem CInv.ticked {i:Nat} {T T1 T4:Twr} (h:CInv n i T T1) (hd:Done T1 i k) {uq v:List Nat} (hk:(T1 i).tried q<(T1 i).gens.length) (hs:(T1 i).gens[(T1 i).tried q]=s) (huq:(T1 i).rep q=some uq) (hv:(T1 i).rep (ap s q)=some v)
  (hkq:∃ h:k<(T1 i).orb.length,(T1 i).orb[k]=q) (hx:Ext (tick T1 i q) T4) (he:∀ j,j<i+1→T4 j=tick T1 i q j) (hu:∀ j,i<j→j<n→Full n T4 j)
  (hlow:i+1<n→∀ s∈(T4 (i+1)).gens,Gr n (·∈(T1 i).gens) s) (hsd:Sd n (trOf T4) (n - (i+1)) (Ma.mulN (Ma.mulN uq s) (Ma.invN v))) :
  CInv n i T T4∧Done T4 i k∧(T4 i).tried q=(T1 i).tried q+1∧(T4 i).gens=(T1 i).gens∧∃ h:k<(T4 i).orb.length,(T4 i).orb[k]=q:=by
 have hx1:=(tick_ext T1 i q).trans hx;have ei:=(he i (by omega)).trans (tick_at T1 i q);obtain ⟨hko,hkq⟩:=hkq;refine ⟨⟨h.ext.trans hx1,fun j hj=>by rw [he j (by omega),tick_ne (by omega)]; exact h.low j hj,by rw [ei]; exact h.gens,hu,tick_lvl h.lvl hk hs huq (he i (by omega)) hx1 hlow hv hsd⟩,?_,by rw [ei]; simp,by rw [ei],?_⟩
 ·intro m hm hmk
  have hm':m<(T1 i).orb.length:=by rw [ei] at hm; exact hm
  have hne:(T1 i).orb[m]≠q:=by
   rw [← hkq];intro e;have:=(List.getElem_inj h.lvl.nd).1 e;omega
  simp only [ei];rw [if_neg hne];exact hd m hm' hmk
 ·refine ⟨by rw [ei]; exact hko,?_⟩
  simp only [ei]; exact hkq
theorem schr_ok {i:Nat} {T:Twr} (h:Lvl n T i) (hin:i<n) {uq v:List Nat} (hs:s∈(T i).gens) (huq:(T i).rep q=some uq) (hv:(T i).rep (ap s q)=some v) :
  Gd n (Ma.mulN uq s)∧Gd n v∧ap (Ma.mulN uq s) i=ap s q∧Gd n (Ma.mulN (Ma.mulN uq s) (Ma.invN v))∧Fx (i+1) (Ma.mulN (Ma.mulN uq s) (Ma.invN v))∧Gr n (·∈(T i).gens) (Ma.mulN (Ma.mulN uq s) (Ma.invN v)):=by
 have gs:=h.ggd s hs;have gu:=h.tgd q uq huq;have gv:=h.tgd _ v hv;have gy:=gd_mul gu gs
 have ay:ap (Ma.mulN uq s) i=ap s q:=by rw [ap_mul gu hin,h.tat q uq huq]
 have fy:Fx i (Ma.mulN uq s):=Fx.mul gu (by omega) (h.tfx q uq huq) (h.gfx s hs);refine ⟨gy,gv,ay,gd_mul gy (gd_inv gv),fun j hj=>?_,.mul _ _ (.mul _ _ (h.tgr q uq huq) (.gen _ hs)) (.inv _ (h.tgr _ v hv))⟩;rw [ap_mul gy (by omega)]
 by_cases e:j=i
 ·subst e
  rw [ay,← h.tat _ v hv];exact ap_inv gv hin
 ·rw [fy j (by omega)]
  exact Fx.inv gv (by omega) (h.tfx _ v hv) j (by omega)
structure Added (n i:Nat) (T T':Twr) (x:List Nat):Prop where
 ext:Ext T T'
 low:∀ j,j<i→T' j=T j
 full:∀ j,i≤j→j<n→Full n T' j
 sd:Sd n (trOf T') (n - i) x
 gens:∀ H:List Nat→Prop,IsG n H→(∀ s∈(T i).gens,H s)→H x→∀ s∈(T' i).gens,H s
theorem Added.same {i:Nat} {T:Twr} {x:List Nat} (hf:∀ j,i≤j→j<n→Full n T j) (hi:i<n) (gx:Gd n x) (fx:Fx i x) (h:(sfP n (trOf T) (n - i) x).1=n):Added n i T T x:=by
 have hr:Rp n i (trOf T):=Lvl.rp fun j a b=>(hf j a b).1;obtain ⟨_,_,g,f,_⟩:=sfP_all hr (d:=n - i) (x:=x) (by omega) (by omega) gx (by rw [show n - (n - i)=i by omega]; exact fx);rw [h] at f;refine ⟨Ext.refl T,fun _ _=>rfl,hf,?_,fun H _ hs _=>hs⟩;refine sfP_back (tr:=trOf T) (by omega) (fun _ _ _ _ e=>e) ?_;rw [h,Nat.sub_self];exact Fx.all g f
structure AInv (n i at_ k:Nat) (T T1:Twr) (r:List Nat):Prop where
 ext:Ext T T1
 low:∀ j,j<i→T1 j=T j
 put:∀ j,i≤j→j<k→T1 j=putG T i at_ r j
 full:∀ j,k≤j→j<n→Full n T1 j
 genk:k≤at_→(T1 k).gens=(T k).gens++[r]
 tail:k=at_+1→∀ j,at_<j→T1 j=T j
 memr:r∈(T1 at_).gens
 more:k≤at_→(T at_).orb.length<(T1 at_).orb.length
theorem AInv.start {i at_:Nat} {T:Twr} {r:List Nat} (hf:∀ j,i≤j→j<n→Full n T j) (hi:i≤at_):AInv n i at_ (at_+1) T (putG T i at_ r) r :=
 ⟨putG_ext _ _ _ _,fun j hj=>putG_out (by omega),fun _ _ _=>rfl,fun j h1 h2=>(hf j (by omega) h2).ext (putG_ext T i at_ r) (putG_out (by omega)) (fun _=>putG_out (by omega)),fun h=>by omega,fun _ j hj=>putG_out (by omega),
  by rw [putG_in ⟨hi,Nat.le_refl _⟩]; exact List.mem_append_right _ (List.mem_singleton.2 rfl),fun h=>by omega⟩
theorem AInv.lvl {i at_:Nat} {T T1:Twr} {r:List Nat} (h:AInv n i at_ (k+1) T T1 r) (hf:∀ j,i≤j→j<n→Full n T j) (hi:i≤k) (hk:k≤at_) (ha:at_<n) (gr:Gd n r) (fr:Fx at_ r):Lvl n T1 k:=by
 have h1:=putG_lvl (hf k hi (by omega)).1 hi gr fr;have e0:=h.put k hi (by omega);refine h1.ext0 e0 (fun j p u e=>?_) fun h0 s hs=>?_
 ·have:trOf (putG T i at_ r) j p=some u:=e
  rw [putG_to] at this;exact h.ext.rep j p u this
 ·by_cases e:k+1≤at_
  ·rw [h.genk e] at hs
   have hp:=h1.low h0 s;rw [putG_in (j:=k+1) ⟨by omega,e⟩] at hp;exact hp hs
  ·have e2:k+1=at_+1:=by omega
   rw [h.tail e2 (k+1) (by omega)] at hs;have hp:=h1.low h0 s;rw [putG_out (j:=k+1) (by omega)] at hp;exact hp hs
theorem AInv.step {i at_:Nat} {T T1 T2:Twr} {r:List Nat} (h:AInv n i at_ (k+1) T T1 r) (hf:∀ j,i≤j→j<n→Full n T j) (hi:i≤k) (hk:k≤at_) (ha:at_<n) (hp:(T at_).rep (ap r at_)=none) (hc:CInv n k T1 T2) (hcm:Cmp T2 k):AInv n i at_ k T T2 r:=by
 have hx:=h.ext.trans hc.ext
 have hg:(T2 k).gens=(T k).gens++[r]:=by rw [hc.gens,h.put k hi (by omega),putG_in ⟨hi,hk⟩]
 have hm:=hc.ext.gens at_ r h.memr
 have hlt:(T at_).orb.length<(T2 at_).orb.length:=by
  by_cases e:k=at_
  ·subst e
   have h0:=(hf k hi ha).1;have hl:=hc.lvl;have hself:=hl.self;obtain ⟨m,hm1,hm2⟩:=List.getElem_of_mem hm;obtain ⟨v,hv,_⟩:=hl.pr k _ m hm1 hself (by rw [hcm k _ hself]; exact hm1);rw [hm2] at hv;have hin:=(hl.orb (ap r k)).2 ⟨v,hv⟩
   have hnin:ap r k∉(T k).orb:=fun hh=>by
    obtain ⟨u,hu⟩:=(h0.orb _).1 hh;rw [hp] at hu; cases hu
   have hnd:(ap r k :: (T k).orb).Nodup:=List.nodup_cons.2 ⟨hnin,h0.nd⟩
   have:=List.Nodup.length_le_of_subset hnd (l₂:=(T2 k).orb) (fun z hz=>by
    rcases List.mem_cons.1 hz with rfl | hz
    ·exact hin
    ·obtain ⟨u,hu⟩:=(h0.orb z).1 hz
     exact (hl.orb z).2 ⟨u,hx.rep k z u hu⟩)
   simp at this; omega
  ·exact Nat.lt_of_lt_of_le (h.more (by omega)) (hc.ext.orb at_)
 refine ⟨hx,fun j hj=>by rw [hc.low j (by omega)]; exact h.low j hj,fun j h1 h2=>by rw [hc.low j h2]; exact h.put j h1 (by omega),fun j h1 h2=>?_,fun _=>hg,fun e=>by omega,hm,fun _=>hlt⟩
 by_cases e:j=k
 ·subst e
  refine ⟨hc.lvl,hcm,?_⟩;have:=(hf j hi h2).2.2;have h3:=pot_more (n:=n) hx ha hk hlt;rw [hg,List.length_append,List.length_singleton];omega
 ·exact hc.up j (by omega) h2
theorem AInv.up {i at_:Nat} {T T1:Twr} {r:List Nat} (h:AInv n i at_ (k+1) T T1 r):∀ j,k<j→j<n→Full n T1 j:=fun j h1 h2=>h.full j (by omega) h2
theorem AInv.added {i:Nat} {T T1:Twr} {x:List Nat} (hf:∀ j,i≤j→j<n→Full n T j) (hi:i<n) (gx:Gd n x) (fx:Fx i x) (h:AInv n i (sfP n (trOf T) (n - i) x).1 i T T1 (sfP n (trOf T) (n - i) x).2) (ha:(sfP n (trOf T) (n - i) x).1<n):Added n i T T1 x:=by
 have hr:Rp n i (trOf T):=Lvl.rp fun j a b=>(hf j a b).1;obtain ⟨_,hge,gr,fr,_⟩:=sfP_all hr (d:=n - i) (x:=x) (by omega) (by omega) gx (by rw [show n - (n - i)=i by omega]; exact fx);rw [show n - (n - i)=i by omega] at hge;refine ⟨h.ext,h.low,h.full,?_,fun H hH hs hx s hs2=>?_⟩
 ·refine sfP_back (tr:=trOf T) (by omega) (fun j p u _ e=>h.ext.rep j p u e) ?_
  exact Lvl.sd (fun j h1 h2=>⟨(h.full j (by omega) h2).1,(h.full j (by omega) h2).2.1⟩) ha (.gen _ h.memr)
 ·rw [h.genk hge] at hs2
  rcases List.mem_append.1 hs2 with hs2 | hs2
  ·exact hs s hs2
  ·rw [List.mem_singleton] at hs2
   subst hs2;refine sfP_mem hH (by omega) (fun j p u h1 h2 hu=>?_) hx;have hT:Tow n i (fun j s=>s∈(T j).gens) (trOf T):=Lvl.tow fun j a b=>⟨(hf j a b).1,(hf j a b).2.1⟩;have h3:=hT.mem j p u (by omega) h2 hu;have h4:=hT.sub (i:=i) (Nat.le_refl _) (k:=j - i) (by omega) (x:=u) (by rwa [show i+(j - i)=j by omega]);exact Gr.sub hH hs h4
end Go.Proofs.Cm

namespace Go.Proofs.YtdnmmibchbceeaaGreat
open Go.RowKit
open Go.Proofs
open Go.Proofs.Cm (Lv Twr trOf)
attribute [local irreducible] Go.Calls
theorem Vncl1 (args:Array Value) (w:World):(callFunc 156 args).run Tryz.prog w=.ok (.enter 156 args) w:=by kernel_rfl
theorem Vncl2 (args:Array Value) (w:World):(callFunc 121 args).run Tryz.prog w=.ok (.enter 121 args) w:=by kernel_rfl
theorem row_of {e:TypeId} {xs:List Value} (h:w.ownsRow B e 1 v n xs) (hk:k<n):∃ g c u,v=.slice (some ⟨g,0,none⟩) n c∧w.cell? ⟨g,0+k,none⟩=some u∧xs[k]?=some u∧g<w.heap.size:=by
 have hh:=h;obtain ⟨h1,h2⟩:=h
 rcases h2 with ⟨_,h0⟩ | ⟨g,cap,cur,rfl,hg,hc,h3,h4,h5,h6⟩
 ·omega
 ·have hx:k<xs.length:=by omega
  refine ⟨g,cap,xs[k],rfl,?_,List.getElem?_eq_getElem hx,(Array.getElem?_eq_some_iff.1 hc).1⟩;have:=hh.cells (g:=g) rfl k xs[k] (List.getElem?_eq_getElem hx);rw [Nat.zero_add];unfold Addr.add at this
  split at this
  ·rename_i h0; subst h0; exact this
  ·simpa using this
theorem TowAt.orbS {T:Twr} {V:Nat→LV} (h:TowAt F L n w T V) {i:Nat} (hi:i<n) (hk:k<(T i).orb.length):∃ g c,(V i).o=.slice (some ⟨g,0,none⟩) (T i).orb.length c∧w.cell? ⟨g,0+k,none⟩=some (.int .i64 (((T i).orb[k]:Nat):Int))∧g<w.heap.size:=by
 obtain ⟨g,c,u,e,h1,h2,h3⟩:=row_of (h.lv i hi).oown hk;refine ⟨g,c,e,?_,h3⟩;rw [h1,← h2];simp [Ma.ofN,List.getElem?_eq_getElem hk]
theorem TowAt.orbL {T:Twr} {V:Nat→LV} (h:TowAt F L n w T V) {i:Nat} (hi:i<n):∃ a c,(V i).o=.slice a (T i).orb.length c:=Rg.row_shape (h.lv i hi).oown
theorem TowAt.genL {T:Twr} {V:Nat→LV} (h:TowAt F L n w T V) {i:Nat} (hi:i<n):∃ a c,(V i).g=.slice a (T i).gens.length c:=Rg.row_shape (h.lv i hi).gown
theorem TowAt.genS {T:Twr} {V:Nat→LV} (h:TowAt F L n w T V) {i:Nat} (hi:i<n) (hk:k<(T i).gens.length):∃ g c u,(V i).g=.slice (some ⟨g,0,none⟩) (T i).gens.length c∧w.cell? ⟨g,0+k,none⟩=some u∧FP F w u (T i).gens[k]∧g<w.heap.size:=by
 obtain ⟨g,c,u,e,h1,h2,h3⟩:=row_of (h.lv i hi).gown hk;refine ⟨g,c,u,e,h1,?_,h3⟩;have hel:=(h.lv i hi).gel;obtain ⟨hku,rfl⟩:=List.getElem?_eq_some_iff.1 h2;have:=hel.2 k hku (by simpa using hk);simp only [List.getElem_map] at this;exact this
structure CL (w:World) (b o:Nat) (v:Value):Prop where
 cell:w.cell? ⟨b,o,none⟩=some v
 lt:b<w.heap.size
theorem CL.up {b o:Nat} (h:CL w b o v) (hb:Below w.heap.size w w'):CL w' b o v:=⟨(hb.cell (p:=⟨b,o,none⟩) h.lt).trans h.cell,Nat.lt_of_lt_of_le h.lt hb.size⟩
theorem Done.next {T:Twr} {i:Nat} (h:Cm.Done T i k) (hq:∃ h:k<(T i).orb.length,(T i).orb[k]=q) (ht:(T i).tried q=(T i).gens.length):Cm.Done T i (k+1):=fun m hm hmk=>by
 by_cases e:m=k
 ·subst e
  obtain ⟨_,e⟩:=hq;rw [e]; exact ht
 ·exact h m hm (by omega)
open Go.Proofs.Cm in
def CloseC (n i:Nat):Prop:=∀ (F:Nat→Prop) (L tb:Nat) (w:World) (T:Twr) (V:Nat→LV),TowAt F L n w T V→CF F w tb 0 (.int .i64 ((n:Nat):Int))→CF F w tb 1 (.slice (some ⟨L,0,none⟩) n n)→(∀ j,i<j→j<n→Full n T j)→Lvl n T i→(T i).gens.length≤5000 →
 Calls Tryz.prog 142 #[.pointer (some ⟨tb,0,none⟩),.int .i64 ((i:Nat):Int)] w fun e w'=>∃ F' T' V',e=.returned (.tuple #[])∧KG F w F' w'∧TowAt F' L n w' T' V'∧CInv n i T T'∧Cmp T' i
open Go.Proofs.Cm in
def AddC (n i:Nat):Prop:=∀ (F:Nat→Prop) (L tb:Nat) (w:World) (T:Twr) (V:Nat→LV) (xv:Value) (x:List Nat),TowAt F L n w T V→CF F w tb 0 (.int .i64 ((n:Nat):Int))→CF F w tb 1 (.slice (some ⟨L,0,none⟩) n n)→FP F w xv x→Gd n x→Fx i x→(∀ j,i≤j→j<n→Full n T j) →
 Calls Tryz.prog 121 #[.pointer (some ⟨tb,0,none⟩),xv,.int .i64 ((i:Nat):Int)] w fun e w'=>∃ F' T' V',e=.returned (.tuple #[])∧KG F w F' w'∧TowAt F' L n w' T' V'∧Added n i T T' x
open Go.Proofs.Cm in
theorem close_any {i:Nat} (hn1:1≤n) (hn2:n≤64) (hin:i<n) (hadd:i+1<n→AddC n (i+1)):CloseC n i:=by
 intro F L tb w T V hT hc0 hc1 hup hlv hgl;have K:=ι (KG.refl hT.Flt);have HT:=ι hT;have C0:=ι hc0;have C1:=ι hc1;have HI:=ι (CInv.refl hlv hup);have HD:=ι (show Done T i 0 from fun m _ h=>absurd h (Nat.not_lt_zero _));have HADD:=ι hadd;have HG:=ι hgl;have hOO:=ι (orb_len hlv);clear hT hc0 hc1 hup hlv hadd hgl
 go_enter Tryz.func142,Tryz.ntmps142
 go_upto_region 0 with (fail);refine Rg.wl ?_;refine Rg.lm 10 (.pointer (some ⟨tb,0,none⟩)) ?_;go_frame;refine Rg.lr 11 (exec_nil _ rfl rfl) ?_;go_frame;refine Rg.lr 12 (exec_field _ rfl rfl (towF1 _ _)) ?_;go_frame;refine Rg.lr 13 (Rg.lo (.slice (some ⟨L,0,none⟩) n n) ⟨tb,1,none⟩ (Rg.run_loadSl _ _ Tryz.underlying168 C1.out.cell)) ?_;go_frame;refine Rg.lm 14 (.int .i64 ((i:Nat):Int)) ?_;go_frame;refine Rg.lr 15 (exec_indexZ0 _ _ rfl Tryz.underlying168 szLevel L (n) (n) (i) rfl rfl hin) ?_;go_frame;refine Rg.la 4 (.pointer (some ⟨L,i*194,none⟩)) ?_;go_frame;have hVo:=HT.out.orbL hin;obtain ⟨oa0,oc0,hVo⟩:=hVo
 have hL0:w.cell? ⟨L,i*194+1,none⟩=some (.slice oa0 (T i).orb.length oc0):=by rw [getO HT.out hin (by omega),hVo]
 have hoN:((T i).orb.length:Int)≤64:=by have:=hOO.out; omega
 clear hVo;go_wp2
 go_loopw [5] (fun kv wr=>∃ (k:Nat) (F1:Nat→Prop) (T1:Twr) (V1:Nat→LV),kv=.int .i64 k∧k≤(T1 i).orb.length∧Hid (TowAt F1 L n wr T1 V1)∧Hid (CF F1 wr tb 0 (.int .i64 ((n:Nat):Int)))∧Hid (CF F1 wr tb 1 (.slice (some ⟨L,0,none⟩) n n))∧Hid (KG F w F1 wr)∧Hid (CInv n i T T1)∧Hid (Done T1 i k)) (fun kv _=>n - (intOf kv).toNat)
 case atStart=>exact ⟨0,F,T,V,rfl,Nat.zero_le _,HT,C0,C1,K,HI,HD⟩
 case round =>
  clear HT C0 C1 K HI HD hL0 hoN;obtain ⟨k,F1,T1,V,rfl,hk,HT,C0,C1,K,HI,HD⟩:=hrel;have hon:=orb_len HI.out.lvl
  have hoN:((T1 i).orb.length:Int)≤64:=by omega
  by_cases hkl:k<(T1 i).orb.length
  ·obtain ⟨ob,oc,hVo,hoc,hob⟩:=HT.out.orbS hin hkl
   have hL0:wr.cell? ⟨L,i*194+1,none⟩=some (.slice (some ⟨ob,0,none⟩) (T1 i).orb.length oc):=by rw [getO HT.out hin (by omega),hVo]
   have hkN:(k:Int)<((T1 i).orb.length:Int):=by omega
   obtain ⟨q,hq⟩:∃ q:Nat,Hid (q=(T1 i).orb[k]):=⟨_,ι rfl⟩;have HKL:=ι hkl;have hoc':=ι (show wr.cell? ⟨ob,0+k,none⟩=some (.int .i64 ((q:Nat):Int)) by rw [hq.out]; exact hoc);have HL0:=ι hL0;clear hVo hoc hob;go_upto_region 4 with (fail);refine Rg.wl ?_;refine Rg.lm 25 (.pointer (some ⟨L,i*194,none⟩)) ?_;go_frame;refine Rg.lr 26 (exec_nil _ rfl rfl) ?_;go_frame;refine Rg.lr 27 (exec_field _ rfl rfl (lvF1 _ _ _)) ?_;go_frame;refine Rg.lr 28 (Rg.lo (.slice (some ⟨ob,0,none⟩) (T1 i).orb.length oc) ⟨L,i*194+1,none⟩ (Rg.run_loadSl _ _ Tryz.underlying25 HL0.out)) ?_;go_frame;refine Rg.lm 29 (.int .i64 ((k:Nat):Int)) ?_;go_frame;refine Rg.lr 30 (exec_indexS slInts _ _ rfl ob (0) ((T1 i).orb.length) oc (k) rfl rfl HKL.out) ?_;go_frame;refine Rg.lr 31 (Rg.lo (.int .i64 ((q:Nat):Int)) ⟨ob,0+k,none⟩ (run_loadInt hoc'.out)) ?_;go_frame;refine Rg.la 6 (.int .i64 ((q:Nat):Int)) ?_;go_frame
   have hqo:=ι (show q∈(T1 i).orb by rw [hq.out]; exact List.getElem_mem HKL.out);obtain ⟨uq,huq⟩:=(HI.out.lvl.orb q).1 hqo.out;have hqn:q<n:=HI.out.lvl.tlt q uq huq;have HUQ:=ι huq;have HKQ:=ι (show ∃ h:k<(T1 i).orb.length,(T1 i).orb[k]=q from ⟨HKL.out,hq.out.symm⟩);have HEX:=ι (Ext.refl T1);have hle:=HI.out.lvl.le q;have HN0:=ι (show ((T1 i).gens.length - (T1 i).tried q)+(T1 i).tried q=(T1 i).gens.length by omega);clear huq hL0 hle hoc' hq hqo hkN hon hoN HL0
   have hq64:q<64:=by omega
   go_wp2;simp only [Nat.zero_add]
   go_loopg [] ((T1 i).gens.length - (T1 i).tried q) (fun g wr=>∃ (F2:Nat→Prop) (T2:Twr) (V2:Nat→LV),Hid (g+(T2 i).tried q=(T2 i).gens.length)∧Hid (TowAt F2 L n wr T2 V2)∧Hid (CF F2 wr tb 0 (.int .i64 ((n:Nat):Int)))∧Hid (CF F2 wr tb 1 (.slice (some ⟨L,0,none⟩) n n))∧Hid (KG F w F2 wr)∧Hid (CInv n i T T2)∧Hid (Done T2 i k)∧Hid (∃ h:k<(T2 i).orb.length,(T2 i).orb[k]=q)∧Hid (Ext T1 T2))
   case atStart=>exact ⟨F1,T1,V,HN0,HT,C0,C1,K,HI,HD,HKQ,HEX⟩
   case round =>
    clear HT C0 C1 K HI HD HKQ HEX HN0 HKL;obtain ⟨F2,T2,V2,HN,HT,C0,C1,K,HI,HD,HKQ,HEX⟩:=hrel;obtain ⟨tr,htr⟩:∃ tr:Nat,Hid (tr=(T2 i).tried q):=⟨_,ι rfl⟩;obtain ⟨gn,hgn⟩:∃ gn:Nat,Hid (gn=(T2 i).gens.length):=⟨_,ι rfl⟩
    have hgt:gk+tr=gn:=by rw [htr.out,hgn.out]; exact HN.out
    have hgn5:gn≤5000:=by rw [hgn.out,HI.out.gens]; exact HG.out
    have CT:=ι (CL.mk (show wr.cell? ⟨L,i*194+130+q,none⟩=some (.int .i64 ((tr:Nat):Int)) by rw [getTried HT.out hin hq64 (by omega),← htr.out]) HT.out.lt);obtain ⟨ga,gc,hVg⟩:=HT.out.genL hin;have CG:=ι (CL.mk (show wr.cell? ⟨L,i*194,none⟩=some (.slice ga gn gc) by rw [getG HT.out hin rfl,hVg,hgn.out]) HT.out.lt);have hon:=orb_len HI.out.lvl
    by_cases hk0:gk=0
    ·clear hVg
     go_upto_region 5 with (fail);have hV0:Below wr.heap.size wr wr.drew:=(Below.refl _ _).drew;replace HT:=ι (HT.out.up hV0);replace C0:=ι (C0.out.up hV0);replace C1:=ι (C1.out.up hV0);replace CT:=ι (CT.out.up hV0);replace CG:=ι (CG.out.up hV0);replace K:=ι (K.out.up hV0);generalize Fup F2 wr wr.drew=F1 at *;clear hV0;refine Rg.Any.begin (S:=Rg.Both 11 (fun _=>True) (fun W=>Below wr.drew.heap.size wr.drew W)) mix ?_;generalize wr.drew=w21 at *;have hS:∀ (l:Array Bool) W,Below w21.heap.size w21 W→Rg.Both 11 (fun _=>True) (fun W=>Below w21.heap.size w21 W) l W:=fun l W h=>⟨.inr trivial,h⟩;have hI:Below w21.heap.size w21 w21:=Below.refl _ _;refine Rg.tm 0 11 (.pointer (some ⟨L,i*194,none⟩)) 32 (hS _ _ hI) ?_;go_frame;refine Rg.tm 1 11 (.int .i64 ((q:Nat):Int)) 33 (hS _ _ hI) ?_;go_frame;refine Rg.tg 2 11 (.pointer (some ⟨L,i*194,none⟩)) 34 rfl rfl (.inl ⟨rfl,fun w _=>exec_nil _ rfl rfl⟩) (hS _ _ hI) ?_;go_frame
     refine Rg.tg 3 11 (.pointer (some ⟨L,i*194+130,none⟩)) 35 rfl rfl (.inl ⟨rfl,fun w _=>exec_field _ rfl rfl (lvF4 _ _ _)⟩) (hS _ _ hI) ?_;go_frame;refine Rg.tg 4 11 (.pointer (some ⟨L,i*194+130+q,none⟩)) 36 rfl rfl (.inl ⟨rfl,fun w _=>exec_indexArr _ _ rfl Tryz.underlying176 szI L (i*194+130) (q) rfl rfl hq64⟩) (hS _ _ hI) ?_;go_frame;refine Rg.tg 5 11 (.int .i64 ((tr:Nat):Int)) 37 rfl rfl (Rg.yc ⟨L,i*194+130+q,none⟩ (fun W hW=>run_loadInt ((Below.cell (p:=⟨L,i*194+130+q,none⟩) hW CT.out.lt).trans CT.out.cell))) (hS _ _ hI) ?_;go_frame;refine Rg.tm 6 11 (.pointer (some ⟨L,i*194,none⟩)) 38 (hS _ _ hI) ?_;go_frame;refine Rg.tg 7 11 (.pointer (some ⟨L,i*194,none⟩)) 39 rfl rfl (.inl ⟨rfl,fun w _=>exec_nil _ rfl rfl⟩) (hS _ _ hI) ?_;go_frame;refine Rg.tg 8 11 (.pointer (some ⟨L,i*194,none⟩)) 40 rfl rfl (.inl ⟨rfl,fun w _=>exec_field _ rfl rfl (lvF0 _ _ _)⟩) (hS _ _ hI) ?_;go_frame
     refine Rg.tg 9 11 (.slice ga gn gc) 41 rfl rfl (Rg.yc ⟨L,i*194,none⟩ (fun W hW=>Rg.run_loadSl _ _ Tryz.underlying22 ((Below.cell (p:=⟨L,i*194,none⟩) hW CG.out.lt).trans CG.out.cell))) (hS _ _ hI) ?_;go_frame;refine Rg.tg 10 11 (.int .i64 ((gn:Nat):Int)) 42 rfl rfl (.inl ⟨rfl,fun w _=>exec_len _ _ _ rfl Tryz.underlying22 _ _ _ rfl⟩) (hS _ _ hI) ?_;go_frame;refine Rg.aR 11 43 rfl rfl (Rg.bn (.bool false) .lss (h:=b_lss _ Rg.dF)) (hS _ _ hI) ?_;go_frame;refine Rg.Any.done (by kernel_rfl) ?_ _;clear hS hI;have HD2:=ι (Done.next HD.out HKQ.out (by rw [← htr.out,← hgn.out]; omega));obtain ⟨hkq1,hkq2⟩:=HKQ.out;go_wp2
     go_roundw
     case rel=>exact ⟨k+1,_,T2,V2,by go_num,hkq1,HT,C0,C1,K,HI,HD2⟩
     case measure=>simp [intOf]; omega
    ·obtain ⟨gb,gc',u,hVg',hgc,hgp,hgl⟩:=HT.out.genS hin (k:=tr) (by have:=hgn.out; omega)
     rw [hVg,← hgn.out] at hVg'
     injection hVg' with e1 _ e2
     subst e1 e2;have HKT:=ι (show tr<gn by omega);obtain ⟨s,hs⟩:∃ s,Hid (∃ h:tr<(T2 i).gens.length,(T2 i).gens[tr]=s):=⟨_,ι ⟨by rw [← hgn.out]; omega,rfl⟩⟩;obtain ⟨hs1,hs2⟩:=hs.out;have hsm:=ι (show s∈(T2 i).gens by rw [← hs2]; exact List.getElem_mem hs1);have GS:=ι (HI.out.lvl.ggd s hsm.out);rw [hs2] at hgp;obtain ⟨sb,so,sc,rfl⟩:=hgp.shape' GS.out hn1;have SP:=ι hgp;have CS:=ι (CL.mk hgc hgl);have hrq:=HEX.out.rep i q uq HUQ.out;have HRQ:=ι hrq;have GU:=ι (HI.out.lvl.tgd q uq hrq)
     have hpq0:Cm.ap (Ma.mulN uq s) i=Cm.ap s q:=by rw [Cm.ap_mul GU.out hin,HI.out.lvl.tat q uq hrq]
     have GY:=ι (Cm.gd_mul GU.out GS.out);obtain ⟨p,hp⟩:∃ p,Hid (p=Cm.ap s q):=⟨_,ι rfl⟩;have hpy:=ι (show Cm.ap (Ma.mulN uq s) i=p by rw [hp.out]; exact hpq0)
     have hpn:p<n:=by rw [← hpy.out]; exact Cm.ap_lt GY.out hin
     have hp64:p<64:=by omega
     have HGT:=ι hgt;have HHK:=ι hk0;clear hVg hgc hgp hgl hs1 hs2 hrq hpq0 hgt hk0
     have hkT:(tr:Int)<(gn:Int):=by have:=HKT.out; omega
     go_upto_region 5 with (fail);have hV0:Below wr.heap.size wr wr.drew:=(Below.refl _ _).drew;replace HT:=ι (HT.out.up hV0);replace C0:=ι (C0.out.up hV0);replace C1:=ι (C1.out.up hV0);replace CT:=ι (CT.out.up hV0);replace CG:=ι (CG.out.up hV0);replace CS:=ι (CS.out.up hV0);replace SP:=ι (SP.out.up hV0);replace K:=ι (K.out.up hV0);generalize Fup F2 wr wr.drew=F1 at *;clear hV0;refine Rg.Any.begin (S:=Rg.Both 11 (fun _=>True) (fun W=>Below wr.drew.heap.size wr.drew W)) mix ?_;generalize wr.drew=w21 at *;have hS:∀ (l:Array Bool) W,Below w21.heap.size w21 W→Rg.Both 11 (fun _=>True) (fun W=>Below w21.heap.size w21 W) l W:=fun l W h=>⟨.inr trivial,h⟩;have hI:Below w21.heap.size w21 w21:=Below.refl _ _;refine Rg.tm 0 11 (.pointer (some ⟨L,i*194,none⟩)) 32 (hS _ _ hI) ?_;go_frame;refine Rg.tm 1 11 (.int .i64 ((q:Nat):Int)) 33 (hS _ _ hI) ?_;go_frame
     refine Rg.tg 2 11 (.pointer (some ⟨L,i*194,none⟩)) 34 rfl rfl (.inl ⟨rfl,fun w _=>exec_nil _ rfl rfl⟩) (hS _ _ hI) ?_;go_frame;refine Rg.tg 3 11 (.pointer (some ⟨L,i*194+130,none⟩)) 35 rfl rfl (.inl ⟨rfl,fun w _=>exec_field _ rfl rfl (lvF4 _ _ _)⟩) (hS _ _ hI) ?_;go_frame;refine Rg.tg 4 11 (.pointer (some ⟨L,i*194+130+q,none⟩)) 36 rfl rfl (.inl ⟨rfl,fun w _=>exec_indexArr _ _ rfl Tryz.underlying176 szI L (i*194+130) (q) rfl rfl hq64⟩) (hS _ _ hI) ?_;go_frame;refine Rg.tg 5 11 (.int .i64 ((tr:Nat):Int)) 37 rfl rfl (Rg.yc ⟨L,i*194+130+q,none⟩ (fun W hW=>run_loadInt ((Below.cell (p:=⟨L,i*194+130+q,none⟩) hW CT.out.lt).trans CT.out.cell))) (hS _ _ hI) ?_;go_frame;refine Rg.tm 6 11 (.pointer (some ⟨L,i*194,none⟩)) 38 (hS _ _ hI) ?_;go_frame;refine Rg.tg 7 11 (.pointer (some ⟨L,i*194,none⟩)) 39 rfl rfl (.inl ⟨rfl,fun w _=>exec_nil _ rfl rfl⟩) (hS _ _ hI) ?_;go_frame
     refine Rg.tg 8 11 (.pointer (some ⟨L,i*194,none⟩)) 40 rfl rfl (.inl ⟨rfl,fun w _=>exec_field _ rfl rfl (lvF0 _ _ _)⟩) (hS _ _ hI) ?_;go_frame;refine Rg.tg 9 11 (.slice (some ⟨gb,0,none⟩) gn gc) 41 rfl rfl (Rg.yc ⟨L,i*194,none⟩ (fun W hW=>Rg.run_loadSl _ _ Tryz.underlying22 ((Below.cell (p:=⟨L,i*194,none⟩) hW CG.out.lt).trans CG.out.cell))) (hS _ _ hI) ?_;go_frame;refine Rg.tg 10 11 (.int .i64 ((gn:Nat):Int)) 42 rfl rfl (.inl ⟨rfl,fun w _=>exec_len _ _ _ rfl Tryz.underlying22 _ _ _ rfl⟩) (hS _ _ hI) ?_;go_frame;refine Rg.aR 11 43 rfl rfl (Rg.bn (.bool true) .lss (h:=b_lss _ Rg.dT)) (hS _ _ hI) ?_;go_frame;refine Rg.Any.done (by kernel_rfl) ?_ _;clear hS hI;go_upto_region 6 with (fail);have hV0:Below w21.heap.size w21 w21.drew:=(Below.refl _ _).drew;replace HT:=ι (HT.out.up hV0);replace C0:=ι (C0.out.up hV0);replace C1:=ι (C1.out.up hV0);replace CT:=ι (CT.out.up hV0)
     replace CG:=ι (CG.out.up hV0);replace CS:=ι (CS.out.up hV0);replace SP:=ι (SP.out.up hV0);replace K:=ι (K.out.up hV0);generalize Fup F1 w21 w21.drew=F2 at *;clear hV0;refine Rg.Any.begin (S:=Rg.Both 12 (fun _=>True) (fun W=>Below w21.drew.heap.size w21.drew W)) mix ?_;generalize w21.drew=w22 at *;have hS:∀ (l:Array Bool) W,Below w22.heap.size w22 W→Rg.Both 12 (fun _=>True) (fun W=>Below w22.heap.size w22 W) l W:=fun l W h=>⟨.inr trivial,h⟩;have hI:Below w22.heap.size w22 w22:=Below.refl _ _;refine Rg.tm 0 12 (.pointer (some ⟨L,i*194,none⟩)) 44 (hS _ _ hI) ?_;go_frame;refine Rg.tg 1 12 (.pointer (some ⟨L,i*194,none⟩)) 45 rfl rfl (.inl ⟨rfl,fun w _=>exec_nil _ rfl rfl⟩) (hS _ _ hI) ?_;go_frame;refine Rg.tg 2 12 (.pointer (some ⟨L,i*194,none⟩)) 46 rfl rfl (.inl ⟨rfl,fun w _=>exec_field _ rfl rfl (lvF0 _ _ _)⟩) (hS _ _ hI) ?_;go_frame
     refine Rg.tg 3 12 (.slice (some ⟨gb,0,none⟩) gn gc) 47 rfl rfl (Rg.yc ⟨L,i*194,none⟩ (fun W hW=>Rg.run_loadSl _ _ Tryz.underlying22 ((Below.cell (p:=⟨L,i*194,none⟩) hW CG.out.lt).trans CG.out.cell))) (hS _ _ hI) ?_;go_frame;refine Rg.tm 4 12 (.pointer (some ⟨L,i*194,none⟩)) 48 (hS _ _ hI) ?_;go_frame;refine Rg.tm 5 12 (.int .i64 ((q:Nat):Int)) 49 (hS _ _ hI) ?_;go_frame;refine Rg.tg 6 12 (.pointer (some ⟨L,i*194,none⟩)) 50 rfl rfl (.inl ⟨rfl,fun w _=>exec_nil _ rfl rfl⟩) (hS _ _ hI) ?_;go_frame;refine Rg.tg 7 12 (.pointer (some ⟨L,i*194+130,none⟩)) 51 rfl rfl (.inl ⟨rfl,fun w _=>exec_field _ rfl rfl (lvF4 _ _ _)⟩) (hS _ _ hI) ?_;go_frame;refine Rg.tg 8 12 (.pointer (some ⟨L,i*194+130+q,none⟩)) 52 rfl rfl (.inl ⟨rfl,fun w _=>exec_indexArr _ _ rfl Tryz.underlying176 szI L (i*194+130) (q) rfl rfl hq64⟩) (hS _ _ hI) ?_;go_frame;refine Rg.tg 9 12 (.int .i64 ((tr:Nat):Int)) 53 rfl rfl (Rg.yc ⟨L,i*194+130+q,none⟩ (fun W hW=>run_loadInt ((Below.cell (p:=⟨L,i*194+130+q,none⟩) hW CT.out.lt).trans CT.out.cell))) (hS _ _ hI) ?_;go_frame
     refine Rg.tg 10 12 (.pointer (some ⟨gb,0+tr,none⟩)) 54 rfl rfl (Rg.yields_index slPerms _ _ rfl rfl gb (0) (gn) gc (tr) rfl rfl HKT.out) (hS _ _ hI) ?_;go_frame;refine Rg.tg 11 12 (.slice (some ⟨sb,so,none⟩) n sc) 55 rfl rfl (Rg.yc ⟨gb,0+tr,none⟩ (fun W hW=>Rg.run_loadSl _ _ Tryz.underlying30 ((Below.cell (p:=⟨gb,0+tr,none⟩) hW CS.out.lt).trans CS.out.cell))) (hS _ _ hI) ?_;go_frame;refine Rg.aR 12 7 rfl rfl (Rg.xa (.slice (some ⟨sb,so,none⟩) n sc) _ rfl rfl) (hS _ _ hI) ?_;go_frame;refine Rg.Any.done (by kernel_rfl) ?_ _;clear hS hI;go_upto_region 7 with (fail);have hV0:Below w22.heap.size w22 w22.drew:=(Below.refl _ _).drew;replace HT:=ι (HT.out.up hV0);replace C0:=ι (C0.out.up hV0);replace C1:=ι (C1.out.up hV0);replace CT:=ι (CT.out.up hV0);replace CG:=ι (CG.out.up hV0);replace CS:=ι (CS.out.up hV0);replace SP:=ι (SP.out.up hV0);replace K:=ι (K.out.up hV0)
     generalize Fup F2 w22 w22.drew=F3 at *;clear hV0;refine Rg.Any.begin (S:=Rg.Both 10 (fun W=>Below w22.drew.heap.size w22.drew W) (fun _=>True)) mix ?_;generalize w22.drew=w23 at *;have hS:∀ (l:Array Bool) W,Below w23.heap.size w23 W→Rg.Both 10 (fun W=>Below w23.heap.size w23 W) (fun _=>True) l W:=fun l W h=>⟨.inr h,trivial⟩;have hS2:∀ (l:Array Bool) W,l.getD 10 false=true→Rg.Both 10 (fun W=>Below w23.heap.size w23 W) (fun _=>True) l W:=fun l W h=>⟨.inl h,trivial⟩;have hI:Below w23.heap.size w23 w23:=Below.refl _ _;refine Rg.tm 0 10 (.pointer (some ⟨L,i*194,none⟩)) 56 (hS _ _ hI) ?_;go_frame;refine Rg.tm 1 10 (.int .i64 ((q:Nat):Int)) 57 (hS _ _ hI) ?_;go_frame;refine Rg.tg 2 10 (.pointer (some ⟨L,i*194,none⟩)) 58 rfl rfl (.inl ⟨rfl,fun w _=>exec_nil _ rfl rfl⟩) (hS _ _ hI) ?_;go_frame;refine Rg.tg 3 10 (.pointer (some ⟨L,i*194+130,none⟩)) 59 rfl rfl (.inl ⟨rfl,fun w _=>exec_field _ rfl rfl (lvF4 _ _ _)⟩) (hS _ _ hI) ?_;go_frame
     refine Rg.tg 4 10 (.pointer (some ⟨L,i*194+130+q,none⟩)) 60 rfl rfl (.inl ⟨rfl,fun w _=>exec_indexArr _ _ rfl Tryz.underlying176 szI L (i*194+130) (q) rfl rfl hq64⟩) (hS _ _ hI) ?_;go_frame;refine Rg.tT 5 10 (.int .i64 ((tr:Nat):Int)) 61 rfl rfl (Rg.yc ⟨L,i*194+130+q,none⟩ (fun W hW=>run_loadInt ((Below.cell (p:=⟨L,i*194+130+q,none⟩) hW CT.out.lt).trans CT.out.cell))) (hS _ _ hI) ?_;go_frame;refine Rg.tg 6 10 (.int .i64 (((tr+1):Nat):Int)) 62 rfl rfl (.inl ⟨rfl,fun w _=>exec_bin (R:=.int .i64 (((tr+1):Nat):Int)) .add _ _ _ rfl rfl rfl (b_add _ (by omega) (by omega))⟩) (hS _ _ hI) ?_;go_frame;refine Rg.tg 7 10 (.pointer (some ⟨L,i*194,none⟩)) 63 rfl rfl (.inl ⟨rfl,fun w _=>exec_nil _ rfl rfl⟩) (hS _ _ hI) ?_;go_frame;refine Rg.tg 8 10 (.pointer (some ⟨L,i*194+130,none⟩)) 64 rfl rfl (.inl ⟨rfl,fun w _=>exec_field _ rfl rfl (lvF4 _ _ _)⟩) (hS _ _ hI) ?_;go_frame
     refine Rg.tg 9 10 (.pointer (some ⟨L,i*194+130+q,none⟩)) 65 rfl rfl (.inl ⟨rfl,fun w _=>exec_indexArr _ _ rfl Tryz.underlying176 szI L (i*194+130) (q) rfl rfl hq64⟩) (hS _ _ hI) ?_;go_frame;refine Rg.Any.one (i:=10) (by kernel_rfl) (Rg.Any.runSkip none rfl rfl rfl (Rg.exec_store _ _ _ rfl _ rfl _ rfl (run_storeInt _ CT.out.cell (HT.out.frozen _))) (hS2 _ _ rfl) ?_);go_frame;have htk:=HT.out.tick hin hq64 (o:=i*194+130+q) (by omega);rw [← htr.out] at htk;refine Rg.Any.done (by kernel_rfl) ?_ _;clear hS2;clear hS hI;obtain ⟨hT3,hk3⟩:=htk;have hkg:=KG.kf' (KG.refl HT.out.Flt) hk3;generalize w23.setCell ⟨L,i*194+130+q,none⟩ (.int .i64 ((tr+1:Nat):Int))=w40 at *;replace HT:=ι hT3;replace C0:=ι (C0.out.kg hkg);replace C1:=ι (C1.out.kg hkg);replace SP:=ι (SP.out.kg hkg);replace K:=ι (K.out.trans hkg);clear hkg hk3 hT3 CT CG CS
     have hrq3:Cm.trOf (Cm.tick T2 i q) i q=some uq:=by show (Cm.tick T2 i q i).rep q=some uq; rw [Cm.tick_at]; exact HRQ.out
     obtain ⟨ub,uo,uc,hVu,hUP⟩:=HT.out.toS hin hq64 hrq3 GU.out hn1;have UP:=ι hUP;have CU:=ι (CL.mk (show w40.cell? ⟨L,i*194+2+q,none⟩=some (.slice (some ⟨ub,uo,none⟩) n uc) by rw [getTo HT.out hin hq64 (by omega),hVu]) HT.out.lt);clear hrq3 hVu hUP;go_upto_region 8 with (fail);refine Rg.wl ?_;refine Rg.lm 66 (.pointer (some ⟨L,i*194,none⟩)) ?_;go_frame;refine Rg.lm 67 (.int .i64 ((q:Nat):Int)) ?_;go_frame;refine Rg.lr 68 (exec_nil _ rfl rfl) ?_;go_frame;refine Rg.lr 69 (exec_field _ rfl rfl (lvF2 _ _ _)) ?_;go_frame;refine Rg.lr 70 (exec_indexArr _ _ rfl Tryz.underlying175 szP L (i*194+2) (q) rfl rfl hq64) ?_;go_frame;refine Rg.lr 71 (Rg.lo (.slice (some ⟨ub,uo,none⟩) n uc) ⟨L,i*194+2+q,none⟩ (Rg.run_loadSl _ _ Tryz.underlying30 CU.out.cell)) ?_;go_frame;refine Rg.lm 72 (.slice (some ⟨sb,so,none⟩) n sc) ?_;go_frame;refine Rg.lk 73 (exec_fn 146 _ _ _ rfl rfl rfl (Vmcl0 _ _)) ?_
     refine (chMul_f UP.out SP.out GU.out GS.out hn1 hn2).mono ?_;rintro e1 w41 ⟨yv,rfl,hyv,hb⟩;obtain ⟨yb,yo,yc,rfl⟩:=hyv.shape' GY.out hn1;refine ⟨_,rfl,?_⟩;go_frame;replace HT:=ι (HT.out.up hb);replace C0:=ι (C0.out.up hb);replace C1:=ι (C1.out.up hb);replace SP:=ι (SP.out.up hb);replace UP:=ι (UP.out.up hb);replace CU:=ι (CU.out.up hb);replace K:=ι (K.out.up hb);have YF:=ι hyv;have CY:=ι (show CF _ _ yb (yo+i) (.int .i64 ((p:Nat):Int)) by rw [← hpy.out]; exact hyv.ap GY.out hin);generalize Fup F3 w40 w41=F4 at *;clear hb;refine Rg.la 8 (.slice (some ⟨yb,yo,none⟩) n yc) ?_;go_frame;clear hyv;go_upto_region 9 with (fail);refine Rg.wl ?_;refine Rg.lm 74 (.slice (some ⟨yb,yo,none⟩) n yc) ?_;go_frame;refine Rg.lm 75 (.int .i64 ((i:Nat):Int)) ?_;go_frame;refine Rg.lr 76 (exec_indexS slPerm _ _ rfl yb (yo) (n) yc (i) rfl rfl hin) ?_;go_frame;refine Rg.lr 77 (Rg.lo (.int .i64 ((p:Nat):Int)) ⟨yb,yo+i,none⟩ (run_loadInt CY.out.cell)) ?_;go_frame
     refine Rg.la 9 (.int .i64 ((p:Nat):Int)) ?_;go_frame
     cases hrp:(T2 i).rep p with
     | none =>
      have hp3:(Cm.tick T2 i q i).rep p=none:=by rw [Cm.tick_at]; exact hrp
      have hV3:=((HT.out.lv i hin).none_ p hp64 hp3).1;have CP:=ι (CL.mk (show w41.cell? ⟨L,i*194+2+p,none⟩=some (.slice none 0 0) by rw [getTo HT.out hin hp64 (by omega),hV3]) HT.out.lt);have HRP:=ι hrp;clear hp3 hV3 hrp CU SP UP;go_upto_region 10 with (fail);refine Rg.wl ?_;refine Rg.lm 78 (.pointer (some ⟨L,i*194,none⟩)) ?_;go_frame;refine Rg.lm 79 (.int .i64 ((p:Nat):Int)) ?_;go_frame;refine Rg.lr 80 (exec_nil _ rfl rfl) ?_;go_frame;refine Rg.lr 81 (exec_field _ rfl rfl (lvF2 _ _ _)) ?_;go_frame;refine Rg.lr 82 (exec_indexArr _ _ rfl Tryz.underlying175 szP L (i*194+2) (p) rfl rfl hp64) ?_;go_frame;refine Rg.lr 83 (Rg.lo (.slice none 0 0) ⟨L,i*194+2+p,none⟩ (Rg.run_loadSl _ _ Tryz.underlying30 CP.out.cell)) ?_;go_frame;refine Rg.lr 84 (exec_nilT _ _ rfl rfl rfl) ?_;go_frame;clear CP;go_upto_region 11 with (fail);have hV0:Below w41.heap.size w41 w41.drew:=(Below.refl _ _).drew
      replace HT:=ι (HT.out.up hV0);replace C0:=ι (C0.out.up hV0);replace C1:=ι (C1.out.up hV0);replace YF:=ι (YF.out.up hV0);replace K:=ι (K.out.up hV0);generalize Fup F4 w41 w41.drew=F5 at *;clear hV0;refine Rg.Any.begin (S:=Rg.Both 10 (fun W=>Below w41.drew.heap.size w41.drew W) (fun _=>True)) mix ?_;generalize w41.drew=w42 at *;have hS:∀ (l:Array Bool) W,Below w42.heap.size w42 W→Rg.Both 10 (fun W=>Below w42.heap.size w42 W) (fun _=>True) l W:=fun l W h=>⟨.inr h,trivial⟩;have hS2:∀ (l:Array Bool) W,l.getD 10 false=true→Rg.Both 10 (fun W=>Below w42.heap.size w42 W) (fun _=>True) l W:=fun l W h=>⟨.inl h,trivial⟩;have hI:Below w42.heap.size w42 w42:=Below.refl _ _;refine Rg.tm 0 10 (.pointer (some ⟨L,i*194,none⟩)) 85 (hS _ _ hI) ?_;go_frame;refine Rg.tm 1 10 (.int .i64 ((p:Nat):Int)) 86 (hS _ _ hI) ?_;go_frame;refine Rg.tm 2 10 (.pointer (some ⟨L,i*194,none⟩)) 87 (hS _ _ hI) ?_;go_frame
      refine Rg.tm 3 10 (.int .i64 ((p:Nat):Int)) 88 (hS _ _ hI) ?_;go_frame;refine Rg.tm 4 10 (.slice (some ⟨yb,yo,none⟩) n yc) 89 (hS _ _ hI) ?_;go_frame;refine Rg.tm 5 10 (.slice (some ⟨yb,yo,none⟩) n yc) 90 (hS _ _ hI) ?_;go_frame;refine Rg.tg 7 10 (.pointer (some ⟨L,i*194,none⟩)) 92 rfl rfl (.inl ⟨rfl,fun w _=>exec_nil _ rfl rfl⟩) (hS _ _ hI) ?_;go_frame;refine Rg.tg 8 10 (.pointer (some ⟨L,i*194+2,none⟩)) 93 rfl rfl (.inl ⟨rfl,fun w _=>exec_field _ rfl rfl (lvF2 _ _ _)⟩) (hS _ _ hI) ?_;go_frame;refine Rg.tg 11 10 (.pointer (some ⟨L,i*194,none⟩)) 95 rfl rfl (.inl ⟨rfl,fun w _=>exec_nil _ rfl rfl⟩) (hS _ _ hI) ?_;go_frame;refine Rg.tg 12 10 (.pointer (some ⟨L,i*194+66,none⟩)) 96 rfl rfl (.inl ⟨rfl,fun w _=>exec_field _ rfl rfl (lvF3 _ _ _)⟩) (hS _ _ hI) ?_;go_frame;refine Rg.Any.one (i:=6) (by kernel_rfl) (Rg.Any.ask (some 91) rfl rfl rfl _ _ (exec_fn1 156 _ _ rfl rfl (Vncl1 _ _)) ?_)
      refine (chInv_f YF.out GY.out hn1 hn2).mono ?_;rintro e1 w43 ⟨iv,rfl,hiv,hb⟩;obtain ⟨jb,jo,jc,rfl⟩:=hiv.shape' (Cm.gd_inv GY.out) hn1;have hI2_u:=Rg.acc hI hb;clear hI;replace HT:=ι (HT.out.up hb);replace C0:=ι (C0.out.up hb);replace C1:=ι (C1.out.up hb);replace YF:=ι (YF.out.up hb);replace K:=ι (K.out.up hb);have IF:=ι hiv;generalize Fup F5 w42 w43=F6 at *;clear hb;refine ⟨_,rfl,(hS _ _ hI2_u),?_⟩;go_frame;refine Rg.tg 9 10 (.pointer (some ⟨L,i*194+2+p,none⟩)) 94 rfl rfl (.inl ⟨rfl,fun w _=>exec_indexArr _ _ rfl Tryz.underlying175 szP L (i*194+2) (p) rfl rfl hp64⟩) (hS _ _ hI2_u) ?_;go_frame;refine Rg.Any.one (i:=10) (by kernel_rfl) (Rg.Any.runSkip none rfl rfl rfl (Rg.exec_store _ _ _ rfl _ rfl _ rfl (Rg.run_storeSl _ infoPerm (getTo HT.out hin hp64 (by omega)) (HT.out.frozen _))) (hS2 _ _ rfl) ?_);go_frame;refine Rg.tg 13 10 (.pointer (some ⟨L,i*194+66+p,none⟩)) 97 rfl rfl (.inl ⟨rfl,fun w _=>exec_indexArr _ _ rfl Tryz.underlying175 szP L (i*194+66) (p) rfl rfl hp64⟩) (hS2 _ _ rfl) ?_;go_frame
      have hr1:=HT.out.row.set (i*194+2+p) (.slice (some ⟨yb,yo,none⟩) n yc);refine Rg.Any.one (i:=14) (by kernel_rfl) (Rg.Any.runSkip none rfl rfl rfl (Rg.exec_store _ _ _ rfl _ rfl _ rfl (Rg.run_storeSl _ infoPerm (hr1.cell (by omega)) (hr1.frozen _))) (hS2 _ _ rfl) ?_);go_frame;clear hr1;refine Rg.Any.done (by kernel_rfl) ?_ _;clear hS2;clear hS hI2_u;obtain ⟨V4,hT4,hk4⟩:=HT.out.setTo hin hp64 (o1:=i*194+2+p) (o2:=i*194+66+p) (by omega) (by omega) YF.out IF.out;have hkg:=KG.kf' (KG.refl HT.out.Flt) hk4;generalize (w43.setCell ⟨L,i*194+2+p,none⟩ (.slice (some ⟨yb,yo,none⟩) n yc)).setCell ⟨L,i*194+66+p,none⟩ (.slice (some ⟨jb,jo,none⟩) n jc)=w60 at *;replace C0:=ι (C0.out.kg hkg);replace C1:=ι (C1.out.kg hkg);replace K:=ι (K.out.trans hkg);clear hkg hk4;obtain ⟨T4,HT4⟩:∃ T4,Hid (T4=setTo (Cm.tick T2 i q) i p (Ma.mulN uq s)):=⟨_,ι rfl⟩
      rw [← HT4.out] at hT4;replace HT:=ι hT4
      have ho4:(T4 i).orb.length≤n:=by
       have e:(T4 i).orb=(T2 i).orb:=by rw [HT4.out]; simp [setTo,Cm.tick_at]
       rw [e]; exact hon
      obtain ⟨oa,oc,hVo⟩:=HT.out.orbL hin;have CO:=ι (CL.mk (show w60.cell? ⟨L,i*194+1,none⟩=some (.slice oa (T4 i).orb.length oc) by rw [getO HT.out hin rfl,hVo]) HT.out.lt);obtain ⟨a9,c9,X9,r1,r2,r3,V5,r4,r5⟩:=HT.out.addO hin (o:=i*194+1) rfl p (by omega) 25;rw [hVo] at r1 r2;clear hT4 hVo IF YF;go_upto_region 12 with (fail);refine Rg.wl ?_;refine Rg.lm 98 (.pointer (some ⟨L,i*194,none⟩)) ?_;go_frame;refine Rg.lm 99 (.pointer (some ⟨L,i*194,none⟩)) ?_;go_frame;refine Rg.lr 100 (exec_nil _ rfl rfl) ?_;go_frame;refine Rg.lr 101 (exec_field _ rfl rfl (lvF1 _ _ _)) ?_;go_frame;refine Rg.lr 102 (Rg.lo (.slice oa (T4 i).orb.length oc) ⟨L,i*194+1,none⟩ (Rg.run_loadSl _ _ Tryz.underlying25 CO.out.cell)) ?_;go_frame;refine Rg.lm 103 (.int .i64 ((p:Nat):Int)) ?_;go_frame;refine Rg.lr 104 (Rg.exec_buildSlice _ _ _ rfl (.int .i64 ((p:Nat):Int)) rfl (run_build1i w60 _)) ?_;go_frame
      refine Rg.lr 105 (Rg.exec_append _ _ _ rfl rfl rfl r1) ?_;go_frame;refine Rg.lr 106 (exec_nil _ rfl rfl) ?_;go_frame;refine Rg.lr 107 (exec_field _ rfl rfl (lvF1 _ _ _)) ?_;go_frame;refine Rg.list_skip none rfl rfl (Rg.exec_store _ _ _ rfl _ rfl _ rfl (Rg.run_storeSl _ infoInts r2 r3)) ?_;go_frame;clear CO r1 r2 r3;have hkg:=KG.kf' (KG.refl HT.out.Flt) r5;generalize X9.setCell ⟨L,i*194+1,none⟩ (.slice a9 ((T4 i).orb.length+1) c9)=w70 at *;replace C0:=ι (C0.out.kg hkg);replace C1:=ι (C1.out.kg hkg);replace K:=ι (K.out.trans hkg);rw [HT4.out,← find_eq] at r4;have hf:=CInv.found HI.out HD.out hin (q:=q) (s:=s) (uq:=uq) (by rw [← htr.out,← hgn.out]; exact HKT.out) (by obtain ⟨a,b⟩:=hs.out; simp only [← htr.out]; exact b) HRQ.out (by rw [← hp.out]; exact HRP.out) HKQ.out;have hx:=HEX.out.trans ((Cm.tick_ext T2 i q).trans (Cm.find_ext (T:=Cm.tick T2 i q) (p:=p) (y:=Ma.mulN uq s) (by rw [Cm.tick_at]; exact HRP.out)))
      rw [← hp.out] at hf;obtain ⟨hf1,hf2,hf3,hf4,hf5⟩:=hf;replace HT:=ι r4;have HF1:=ι hf1;have HF2:=ι hf2;have HF5:=ι hf5;have HX:=ι hx;have HN5:=ι (show (gk - 1)+(Cm.find (Cm.tick T2 i q) i p (Ma.mulN uq s) i).tried q=(Cm.find (Cm.tick T2 i q) i p (Ma.mulN uq s) i).gens.length by have h1:=HN.out; have h2:=HHK.out; rw [hf3,hf4]; omega);clear hf1 hf2 hf3 hf4 hf5 hx hkg r4 r5;go_wp2
      go_roundg (gk - 1)
      case rel=>exact ⟨_,_,V5,HN5,HT,C0,C1,K,HF1,HF2,HF5,HX⟩
      case measure=>have:=HHK.out; omega
     | some v =>
      have hp3:trOf (Cm.tick T2 i q) i p=some v:=by show (Cm.tick T2 i q i).rep p=some v; rw [Cm.tick_at]; exact hrp
      obtain ⟨hsa,GV,_,GX,FX,RX⟩:=schr_ok HI.out.lvl hin hsm.out HRQ.out (show (T2 i).rep (Cm.ap s q)=some v by rw [← hp.out]; exact hrp);replace GV:=ι GV;replace GX:=ι GX;replace FX:=ι FX;replace RX:=ι RX;obtain ⟨vb,vo,vc,hVt,_⟩:=HT.out.toS hin hp64 hp3 GV.out hn1;obtain ⟨zb,zo,zc,hVb,hBP⟩:=HT.out.byS hin hp64 hp3 GV.out hn1;have CP:=ι (CL.mk (show w41.cell? ⟨L,i*194+2+p,none⟩=some (.slice (some ⟨vb,vo,none⟩) n vc) by rw [getTo HT.out hin hp64 (by omega),hVt]) HT.out.lt);have CB:=ι (CL.mk (show w41.cell? ⟨L,i*194+66+p,none⟩=some (.slice (some ⟨zb,zo,none⟩) n zc) by rw [getBy HT.out hin hp64 (by omega),hVb]) HT.out.lt);have BP:=ι hBP;have HRP:=ι hrp;clear hp3 hVt hVb hBP hsa hrp CU SP UP
      by_cases hi1:i+1<n
      ·have HFU:=ι (show ∀ j,i+1≤j→j<n→Full n (Cm.tick T2 i q) j from fun j h1 h2=>(HI.out.up j (by omega) h2).ext (Cm.tick_ext T2 i q) (Cm.tick_ne (by omega)) (fun _=>Cm.tick_ne (by omega)))
       have HIN:=ι hi1
       have hiN:((i+1:Nat):Int)<(n:Int):=by omega
       go_upto_region 10 with (fail);refine Rg.wl ?_;refine Rg.lm 78 (.pointer (some ⟨L,i*194,none⟩)) ?_;go_frame;refine Rg.lm 79 (.int .i64 ((p:Nat):Int)) ?_;go_frame;refine Rg.lr 80 (exec_nil _ rfl rfl) ?_;go_frame;refine Rg.lr 81 (exec_field _ rfl rfl (lvF2 _ _ _)) ?_;go_frame;refine Rg.lr 82 (exec_indexArr _ _ rfl Tryz.underlying175 szP L (i*194+2) (p) rfl rfl hp64) ?_;go_frame;refine Rg.lr 83 (Rg.lo (.slice (some ⟨vb,vo,none⟩) n vc) ⟨L,i*194+2+p,none⟩ (Rg.run_loadSl _ _ Tryz.underlying30 CP.out.cell)) ?_;go_frame;refine Rg.lr 84 (exec_nilF _ _ rfl rfl rfl) ?_;go_frame;go_upto_region 13 with (fail);refine Rg.wl ?_;refine Rg.lm 108 (.int .i64 ((i:Nat):Int)) ?_;go_frame;refine Rg.lr 109 (Rg.bn (.int .i64 (((i+1):Nat):Int)) .add (h:=b_add _ (by omega) (by omega))) ?_;go_frame;refine Rg.lm 110 (.pointer (some ⟨tb,0,none⟩)) ?_;go_frame;refine Rg.lr 111 (exec_nil _ rfl rfl) ?_;go_frame
       refine Rg.lr 112 (exec_field _ rfl rfl (towF0 _ _)) ?_;go_frame;refine Rg.lr 113 (Rg.lo (.int .i64 ((n:Nat):Int)) ⟨tb,0,none⟩ (run_loadInt C0.out.cell)) ?_;go_frame;refine Rg.lr 114 (Rg.bn (.bool true) .lss (h:=b_lss _ Rg.dT)) ?_;go_frame;go_upto_region 14 with (fail);refine Rg.wl ?_;refine Rg.lm 115 (.pointer (some ⟨tb,0,none⟩)) ?_;go_frame;refine Rg.lm 116 (.slice (some ⟨yb,yo,none⟩) n yc) ?_;go_frame;refine Rg.lm 117 (.pointer (some ⟨L,i*194,none⟩)) ?_;go_frame;refine Rg.lm 118 (.int .i64 ((p:Nat):Int)) ?_;go_frame;refine Rg.lr 119 (exec_nil _ rfl rfl) ?_;go_frame;refine Rg.lr 120 (exec_field _ rfl rfl (lvF3 _ _ _)) ?_;go_frame;refine Rg.lr 121 (exec_indexArr _ _ rfl Tryz.underlying175 szP L (i*194+66) (p) rfl rfl hp64) ?_;go_frame;refine Rg.lr 122 (Rg.lo (.slice (some ⟨zb,zo,none⟩) n zc) ⟨L,i*194+66+p,none⟩ (Rg.run_loadSl _ _ Tryz.underlying30 CB.out.cell)) ?_;go_frame
       refine Rg.lk 123 (exec_fn 146 _ _ _ rfl rfl rfl (Vmcl0 _ _)) ?_;refine (chMul_f YF.out BP.out GY.out (Cm.gd_inv GV.out) hn1 hn2).mono ?_;rintro e1 w42 ⟨mv,rfl,hmv,hb⟩;refine ⟨_,rfl,?_⟩;go_frame;replace HT:=ι (HT.out.up hb);replace C0:=ι (C0.out.up hb);replace C1:=ι (C1.out.up hb);replace YF:=ι (YF.out.up hb);replace CY:=ι (CY.out.up hb);replace CP:=ι (CP.out.up hb);replace CB:=ι (CB.out.up hb);replace BP:=ι (BP.out.up hb);replace K:=ι (K.out.up hb);have MV:=ι hmv;generalize Fup F4 w41 w42=F5 at *;clear hb;refine Rg.lm 124 (.int .i64 ((i:Nat):Int)) ?_;go_frame;refine Rg.lr 125 (Rg.bn (.int .i64 (((i+1):Nat):Int)) .add (h:=b_add _ (by omega) (by omega))) ?_;go_frame;refine Rg.lk 126 (exec_fn3 121 _ _ _ _ rfl rfl rfl rfl (Vncl2 _ _)) ?_;refine (HADD.out HIN.out _ L tb _ _ _ _ _ HT.out C0.out C1.out MV.out GX.out FX.out HFU.out).mono ?_;rintro e1 w43 ⟨F9,T9,V9,rfl,hk9,hT9,hA9⟩
       have HA:=ι hA9;clear hA9;refine ⟨_,rfl,?_⟩;go_frame;clear CP;clear CB;clear CY;clear YF;clear BP;replace HT:=ι hT9;replace C0:=ι (C0.out.kg hk9);replace C1:=ι (C1.out.kg hk9);replace MV:=ι (MV.out.kg hk9);replace K:=ι (K.out.trans hk9);clear hk9 hT9;have hf:=CInv.ticked HI.out HD.out (q:=q) (s:=s) (uq:=uq) (v:=v) (by rw [← htr.out,← hgn.out]; exact HKT.out) (by obtain ⟨a,b⟩:=hs.out; simp only [← htr.out]; exact b) HRQ.out (by rw [← hp.out]; exact HRP.out) HKQ.out HA.out.ext HA.out.low (fun j h1 h2=>HA.out.full j h1 h2) (fun h0=>HA.out.gens _ (Gr.isG HI.out.lvl.ggd) (fun s hs=>HI.out.lvl.low h0 s (by rwa [Cm.tick_ne (by omega)] at hs)) RX.out) HA.out.sd;have hx:=HEX.out.trans ((Cm.tick_ext T2 i q).trans HA.out.ext);obtain ⟨hf1,hf2,hf3,hf4,hf5⟩:=hf;have HF1:=ι hf1;have HF2:=ι hf2;have HF5:=ι hf5;have HX:=ι hx;have HN5:=ι (show (gk - 1)+(T9 i).tried q=(T9 i).gens.length by have h1:=HN.out; have h2:=HHK.out; rw [hf3,hf4]; omega)
       clear hf1 hf2 hf3 hf4 hf5 hx;go_wp2
       go_roundg (gk - 1)
       case rel=>exact ⟨_,_,_,HN5,HT,C0,C1,K,HF1,HF2,HF5,HX⟩
       case measure=>have:=HHK.out; omega
      ·have hiN:¬ ((i+1:Nat):Int)<(n:Int):=by omega
       go_upto_region 10 with (fail);refine Rg.wl ?_;refine Rg.lm 78 (.pointer (some ⟨L,i*194,none⟩)) ?_;go_frame;refine Rg.lm 79 (.int .i64 ((p:Nat):Int)) ?_;go_frame;refine Rg.lr 80 (exec_nil _ rfl rfl) ?_;go_frame;refine Rg.lr 81 (exec_field _ rfl rfl (lvF2 _ _ _)) ?_;go_frame;refine Rg.lr 82 (exec_indexArr _ _ rfl Tryz.underlying175 szP L (i*194+2) (p) rfl rfl hp64) ?_;go_frame;refine Rg.lr 83 (Rg.lo (.slice (some ⟨vb,vo,none⟩) n vc) ⟨L,i*194+2+p,none⟩ (Rg.run_loadSl _ _ Tryz.underlying30 CP.out.cell)) ?_;go_frame;refine Rg.lr 84 (exec_nilF _ _ rfl rfl rfl) ?_;go_frame;go_upto_region 13 with (fail);refine Rg.wl ?_;refine Rg.lm 108 (.int .i64 ((i:Nat):Int)) ?_;go_frame;refine Rg.lr 109 (Rg.bn (.int .i64 (((i+1):Nat):Int)) .add (h:=b_add _ (by omega) (by omega))) ?_;go_frame;refine Rg.lm 110 (.pointer (some ⟨tb,0,none⟩)) ?_;go_frame;refine Rg.lr 111 (exec_nil _ rfl rfl) ?_;go_frame
       refine Rg.lr 112 (exec_field _ rfl rfl (towF0 _ _)) ?_;go_frame;refine Rg.lr 113 (Rg.lo (.int .i64 ((n:Nat):Int)) ⟨tb,0,none⟩ (run_loadInt C0.out.cell)) ?_;go_frame;refine Rg.lr 114 (Rg.bn (.bool false) .lss (h:=b_lss _ Rg.dF)) ?_;go_frame;have hf:=CInv.ticked (T4:=Cm.tick T2 i q) HI.out HD.out (q:=q) (s:=s) (uq:=uq) (v:=v) (by rw [← htr.out,← hgn.out]; exact HKT.out) (by obtain ⟨a,b⟩:=hs.out; simp only [← htr.out]; exact b) HRQ.out (by rw [← hp.out]; exact HRP.out) HKQ.out (Ext.refl _) (fun _ _=>rfl) (fun j h1 h2=>absurd h2 (by omega)) (fun h0=>absurd h0 hi1) (by rw [show n - (i+1)=0 by omega]; exact Cm.Fx.all GX.out (by have:=FX.out; rwa [show i+1=n by omega] at this));have hx:=HEX.out.trans (Cm.tick_ext T2 i q);obtain ⟨hf1,hf2,hf3,hf4,hf5⟩:=hf;have HF1:=ι hf1;have HF2:=ι hf2;have HF5:=ι hf5;have HX:=ι hx;have HN5:=ι (show (gk - 1)+((Cm.tick T2 i q) i).tried q=((Cm.tick T2 i q) i).gens.length by have h1:=HN.out; have h2:=HHK.out; rw [hf3,hf4]; omega)
       clear hf1 hf2 hf3 hf4 hf5 hx;go_wp2
       go_roundg (gk - 1)
       case rel=>exact ⟨_,_,_,HN5,HT,C0,C1,K,HF1,HF2,HF5,HX⟩
       case measure=>have:=HHK.out; omega
  ·have HE:k=(T1 i).orb.length:=by omega
   obtain ⟨oa,oc,hVo⟩:=HT.out.orbL hin
   have hL0:wr.cell? ⟨L,i*194+1,none⟩=some (.slice oa (T1 i).orb.length oc):=by rw [getO HT.out hin (by omega),hVo]
   have hkN:¬ (k:Int)<((T1 i).orb.length:Int):=by omega
   have HD2:=ι (Done.cmp (by rw [← HE]; exact HD.out) HI.out.lvl);clear hVo HE;go_wp2
   go_end0
   exact ⟨rfl,F1,K.out,T1,⟨V,HT.out⟩,HI.out,HD2.out⟩

theorem Vocl0 (args:Array Value) (w:World):(callFunc 141 args).run Tryz.prog w=.ok (.enter 141 args) w:=by kernel_rfl
theorem Vocl1 (args:Array Value) (w:World):(callFunc 142 args).run Tryz.prog w=.ok (.enter 142 args) w:=by kernel_rfl
theorem infoPermsV:(Tryz.prog.info? 22).map (fun i=>(i.zero,i.size,i.bytes))=some (some (.slice none 0 0),1,24):=by kernel_rfl
def putL (T:Twr) (i j:Nat) (r:List Nat):Twr:=fun k=>if i≤k∧k<j then { T k with gens:=(T k).gens++[r] } else T k
theorem putL_zero (T:Twr) (i:Nat) (r:List Nat):putL T i i r=T:=by
 funext k; unfold putL; rw [if_neg (by omega)]
theorem putL_at (T:Twr) (i j:Nat) (r:List Nat):putL T i j r j=T j:=by
 unfold putL; rw [if_neg (by omega)]
theorem putL_step (T:Twr) (i j:Nat) (r:List Nat) (h:i≤j):pushG (putL T i j r) j r=putL T i (j+1) r:=by
 funext k
 unfold pushG
 by_cases e:k=j
 ·subst e
  rw [if_pos rfl,putL_at]; unfold putL; rw [if_pos (by omega)]
 ·rw [if_neg e]; unfold putL
  by_cases h2:i≤k∧k<j
  ·rw [if_pos h2,if_pos (by omega)]
  ·rw [if_neg h2,if_neg (by omega)]
theorem putL_all (T:Twr) (i a:Nat) (r:List Nat):putL T i (a+1) r=Cm.putG T i a r:=by
 funext k
 unfold putL Cm.putG
 by_cases h:i≤k∧k≤a
 ·rw [if_pos (by omega),if_pos h]
 ·rw [if_neg (by omega),if_neg h]
open Go.Proofs.Cm in
theorem add_any {i:Nat} (hn1:1≤n) (hn2:n≤64) (hin:i<n) (hcl:∀ k,i≤k→k<n→CloseC n k):AddC n i:=by
 intro F L tb w T V xv x hT hc0 hc1 hx gx fx hfull;have K:=ι (KG.refl hT.Flt);have HT:=ι hT;have C0:=ι hc0;have C1:=ι hc1;have X:=ι hx;have GX:=ι gx;have FX:=ι fx;have HFU:=ι hfull;have HCL:=ι hcl;have HR:=ι (Lvl.rp fun j a b=>(hfull j a b).1);obtain ⟨at0,r,hA⟩:∃ a r,Hid (sfP n (trOf T) (n - i) x=(a,r)):=⟨_,_,ι rfl⟩;obtain ⟨ha1,ha2,gr,fr,hno⟩:=sfP_all HR.out (d:=n - i) (x:=x) (by omega) (by omega) gx (by rw [show n - (n - i)=i by omega]; exact fx);rw [hA.out] at ha1 ha2 gr fr hno;have GR:=ι gr;have FR:=ι fr;have HNO:=ι hno;replace ha1:at0≤n:=ha1
 replace ha2:i≤at0:=by have:n - (n - i)≤at0:=ha2; omega
 clear hT hc0 hc1 hx gx fx hfull hcl gr fr hno
 go_enter Tryz.func121,Tryz.ntmps121
 go_upto_region 0 with (fail);refine Rg.wl ?_;refine Rg.lm 11 (.pointer (some ⟨tb,0,none⟩)) ?_;go_frame;refine Rg.lm 12 (xv) ?_;go_frame;refine Rg.lm 13 (.int .i64 ((i:Nat):Int)) ?_;go_frame;have hsc:=sift_any HT.out C0.out C1.out hn1 hn2 X.out GX.out (by omega) FX.out HR.out;rw [hA.out] at hsc
 dsimp only at hsc
 refine Rg.lk 14 (exec_fn3 141 _ _ _ _ rfl rfl rfl rfl (Vocl0 _ _)) ?_;refine (hsc).mono ?_;rintro e1 w1 ⟨F1,rv,rfl,hk1,hT1,hr1,hb1⟩;clear hsc hb1;refine ⟨_,rfl,?_⟩;go_frame;replace HT:=ι hT1;replace C0:=ι (C0.out.kg hk1);replace C1:=ι (C1.out.kg hk1);replace X:=ι (X.out.kg hk1);replace K:=ι (K.out.trans hk1);have R:=ι hr1;clear hk1 hT1;refine Rg.lm 10 (.tuple #[.int .i64 ((at0:Nat):Int),rv]) ?_;go_frame;refine Rg.lr 15 (Rg.ex (.int .i64 ((at0:Nat):Int))) ?_;go_frame;refine Rg.lr 16 (Rg.ex (rv)) ?_;go_frame;refine Rg.la 6 (.int .i64 ((at0:Nat):Int)) ?_;go_frame;refine Rg.la 7 (rv) ?_;go_frame;clear hr1 X
 by_cases han:at0=n
 ·have hae:(at0:Int)=(n:Int):=by omega
  go_upto_region 1 with (fail);refine Rg.wl ?_;refine Rg.lm 17 (.int .i64 ((at0:Nat):Int)) ?_;go_frame;refine Rg.lm 18 (.pointer (some ⟨tb,0,none⟩)) ?_;go_frame;refine Rg.lr 19 (exec_nil _ rfl rfl) ?_;go_frame;refine Rg.lr 20 (exec_field _ rfl rfl (towF0 _ _)) ?_;go_frame;refine Rg.lr 21 (Rg.lo (.int .i64 ((n:Nat):Int)) ⟨tb,0,none⟩ (run_loadInt C0.out.cell)) ?_;go_frame;refine Rg.lr 22 (Rg.bn (.bool true) .eql (h:=b_eql _ Rg.dT)) ?_;go_frame;have HA:=ι (Added.same HFU.out hin GX.out FX.out (by rw [hA.out]; exact han));go_wp2
  first
  | go_end0
  | refine bodyPost_ret (results_none rfl _ _ _) rfl ?_
  exact ⟨rfl,_,K.out,T,⟨V,HT.out⟩,HA.out⟩
 ·have hae:¬ (at0:Int)=(n:Int):=by omega
  have han':at0<n:=by omega
  go_upto_region 1 with (fail);refine Rg.wl ?_;refine Rg.lm 17 (.int .i64 ((at0:Nat):Int)) ?_;go_frame;refine Rg.lm 18 (.pointer (some ⟨tb,0,none⟩)) ?_;go_frame;refine Rg.lr 19 (exec_nil _ rfl rfl) ?_;go_frame;refine Rg.lr 20 (exec_field _ rfl rfl (towF0 _ _)) ?_;go_frame;refine Rg.lr 21 (Rg.lo (.int .i64 ((n:Nat):Int)) ⟨tb,0,none⟩ (run_loadInt C0.out.cell)) ?_;go_frame;refine Rg.lr 22 (Rg.bn (.bool false) .eql (h:=b_eql _ Rg.dF)) ?_;go_frame;have hg0:=C0.out.cell;go_upto_region 2 with (fail);go_wp2
  go_loopw [8] (fun iv wr=>∃ (j:Nat) (F2:Nat→Prop) (V2:Nat→LV),iv=.int .i64 j∧i≤j∧j≤at0+1∧Hid (TowAt F2 L n wr (putL T i j r) V2)∧Hid (CF F2 wr tb 0 (.int .i64 ((n:Nat):Int)))∧Hid (CF F2 wr tb 1 (.slice (some ⟨L,0,none⟩) n n))∧Hid (KG F w F2 wr)∧Hid (FP F2 wr rv r)) (fun iv _=>at0+1 - (intOf iv).toNat)
  case atStart=>exact ⟨i,_,V,rfl,Nat.le_refl _,by omega,ι (by rw [putL_zero]; exact HT.out),C0,C1,K,R⟩
  case round =>
   clear HT C0 C1 K R hg0;obtain ⟨j,F2,V2,rfl,hj1,hj2,HT,C0,C1,K,R⟩:=hrel
   by_cases hja:j≤at0
   ·have hjN:(j:Int)≤(at0:Int):=by omega
    have hjn:j<n:=by omega
    obtain ⟨rb,ro,rc,rfl⟩:=R.out.shape' GR.out hn1;have hgl:=HT.out.genL hjn;rw [putL_at] at hgl;obtain ⟨ga,gc,hVg⟩:=hgl;have CG:=ι (CL.mk (show wr.cell? ⟨L,j*194,none⟩=some (.slice ga (T j).gens.length gc) by rw [getG HT.out hjn rfl,hVg]) HT.out.lt);have hgs:(T j).gens.length≤4096:=Nat.le_trans (HFU.out j hj1 hjn).2.2 (pot_le (fun j a b=>(HFU.out j a b).1) hj1 hn2);go_upto_region 5 with (fail);have hV0:Below wr.heap.size wr wr.drew:=(Below.refl _ _).drew;replace HT:=ι (HT.out.up hV0);replace C0:=ι (C0.out.up hV0);replace C1:=ι (C1.out.up hV0);replace R:=ι (R.out.up hV0);replace CG:=ι (CG.out.up hV0);replace K:=ι (K.out.up hV0);generalize Fup F2 wr wr.drew=F1 at *;clear hV0;refine Rg.Any.begin (S:=Rg.Both 16 (fun W:World=>W.cell? ⟨tb,1,none⟩=some (.slice (some ⟨L,0,none⟩) n n)∧W.cell? ⟨L,j*194,none⟩=some (.slice ga (T j).gens.length gc)) (fun _=>True)) mix ?_
    generalize wr.drew=w21 at *;have hS:∀ (l:Array Bool) W,(fun W:World=>W.cell? ⟨tb,1,none⟩=some (.slice (some ⟨L,0,none⟩) n n)∧W.cell? ⟨L,j*194,none⟩=some (.slice ga (T j).gens.length gc)) W→Rg.Both 16 (fun W:World=>W.cell? ⟨tb,1,none⟩=some (.slice (some ⟨L,0,none⟩) n n)∧W.cell? ⟨L,j*194,none⟩=some (.slice ga (T j).gens.length gc)) (fun _=>True) l W:=fun l W h=>⟨.inr h,trivial⟩;have hS2:∀ (l:Array Bool) W,l.getD 16 false=true→Rg.Both 16 (fun W:World=>W.cell? ⟨tb,1,none⟩=some (.slice (some ⟨L,0,none⟩) n n)∧W.cell? ⟨L,j*194,none⟩=some (.slice ga (T j).gens.length gc)) (fun _=>True) l W:=fun l W h=>⟨.inl h,trivial⟩;have hI:(fun W:World=>W.cell? ⟨tb,1,none⟩=some (.slice (some ⟨L,0,none⟩) n n)∧W.cell? ⟨L,j*194,none⟩=some (.slice ga (T j).gens.length gc)) w21:=⟨C1.out.cell,CG.out.cell⟩
    refine Rg.tm 0 16 (.pointer (some ⟨tb,0,none⟩)) 29 (hS _ _ hI) ?_;go_frame;refine Rg.tg 1 16 (.pointer (some ⟨tb,0,none⟩)) 30 rfl rfl (.inl ⟨rfl,fun w _=>exec_nil _ rfl rfl⟩) (hS _ _ hI) ?_;go_frame;refine Rg.tg 2 16 (.pointer (some ⟨tb,1,none⟩)) 31 rfl rfl (.inl ⟨rfl,fun w _=>exec_field _ rfl rfl (towF1 _ _)⟩) (hS _ _ hI) ?_;go_frame;refine Rg.tT 3 16 (.slice (some ⟨L,0,none⟩) n n) 32 rfl rfl (Rg.yc ⟨tb,1,none⟩ (fun W hW=>Rg.run_loadSl _ _ Tryz.underlying168 hW.1)) (hS _ _ hI) ?_;go_frame;refine Rg.tm 4 16 (.int .i64 ((j:Nat):Int)) 33 (hS _ _ hI) ?_;go_frame;refine Rg.tm 5 16 (.pointer (some ⟨tb,0,none⟩)) 34 (hS _ _ hI) ?_;go_frame;refine Rg.tg 6 16 (.pointer (some ⟨tb,0,none⟩)) 35 rfl rfl (.inl ⟨rfl,fun w _=>exec_nil _ rfl rfl⟩) (hS _ _ hI) ?_;go_frame;refine Rg.tg 7 16 (.pointer (some ⟨tb,1,none⟩)) 36 rfl rfl (.inl ⟨rfl,fun w _=>exec_field _ rfl rfl (towF1 _ _)⟩) (hS _ _ hI) ?_;go_frame
    refine Rg.tT 8 16 (.slice (some ⟨L,0,none⟩) n n) 37 rfl rfl (Rg.yc ⟨tb,1,none⟩ (fun W hW=>Rg.run_loadSl _ _ Tryz.underlying168 hW.1)) (hS _ _ hI) ?_;go_frame;refine Rg.tm 9 16 (.int .i64 ((j:Nat):Int)) 38 (hS _ _ hI) ?_;go_frame;refine Rg.tg 10 16 (.pointer (some ⟨L,j*194,none⟩)) 39 rfl rfl (.inl ⟨rfl,fun w _=>exec_indexZ0 _ _ rfl Tryz.underlying168 szLevel L (n) (n) (j) rfl rfl hjn⟩) (hS _ _ hI) ?_;go_frame;refine Rg.tg 11 16 (.pointer (some ⟨L,j*194,none⟩)) 40 rfl rfl (.inl ⟨rfl,fun w _=>exec_field _ rfl rfl (lvF0 _ _ _)⟩) (hS _ _ hI) ?_;go_frame;refine Rg.tT 12 16 (.slice ga (T j).gens.length gc) 41 rfl rfl (Rg.yc ⟨L,j*194,none⟩ (fun W hW=>Rg.run_loadSl _ _ Tryz.underlying22 hW.2)) (hS _ _ hI) ?_;go_frame;refine Rg.tm 13 16 (.slice (some ⟨rb,ro,none⟩) n rc) 42 (hS _ _ hI) ?_;go_frame;have hbA:=(Below.refl w21.heap.size w21).alloc (Nat.le_refl _) (.cells #[.slice (some ⟨rb,ro,none⟩) n rc] 30)
    have hI2_m:=(show _∧_ from ⟨(Below.cell (p:=⟨tb,1,none⟩) hbA C1.out.lt).trans C1.out.cell,(Below.cell (p:=⟨L,j*194,none⟩) hbA CG.out.lt).trans CG.out.cell⟩);refine Rg.aR 14 43 rfl rfl (Rg.exec_buildSlice _ _ _ rfl (.slice (some ⟨rb,ro,none⟩) n rc) rfl (run_build1P w21 _ ⟨_,_,_,rfl⟩)) (hS _ _ hI2_m) ?_;go_frame;obtain ⟨a9,c9,X9,r1,r2,r3,V5,r4,r5⟩:=HT.out.addG hjn (o:=j*194) rfl R.out ⟨_,_,_,rfl⟩ (by rw [putL_at]; omega) 22;rw [putL_step _ _ _ _ hj1] at r4;rw [putL_at] at r1 r4 r5;rw [hVg] at r1 r2;have hc9:=r5.cell (b:=tb) (o:=1) C1.out.inF C1.out.lt
    rw [World.cell?_setCell_other (h:=by intro e; injection e with e1 _; exact HT.out.LF (e1▸C1.out.inF)),C1.out.cell] at hc9
    have hI3_m:=(show _∧_ from ⟨hc9,r2⟩);refine Rg.aR 15 44 rfl rfl (Rg.exec_append _ _ _ rfl rfl rfl r1) (hS _ _ hI3_m) ?_;go_frame;refine Rg.aR 16 45 rfl rfl (exec_indexZ0 _ _ rfl Tryz.underlying168 szLevel L (n) (n) (j) rfl rfl hjn) (hS2 _ _ rfl) ?_;go_frame;refine Rg.tg 17 16 (.pointer (some ⟨L,j*194,none⟩)) 46 rfl rfl (.inl ⟨rfl,fun w _=>exec_field _ rfl rfl (lvF0 _ _ _)⟩) (hS2 _ _ rfl) ?_;go_frame;refine Rg.Any.one (i:=18) (by kernel_rfl) (Rg.Any.runSkip none rfl rfl rfl (Rg.exec_store _ _ _ rfl _ rfl _ rfl (Rg.run_storeSl _ infoPermsV r2 r3)) (hS2 _ _ rfl) ?_);go_frame;refine Rg.Any.done (by kernel_rfl) ?_ _;clear hS2;clear hS hI3_m;have hkg:=KG.kf' (KG.refl HT.out.Flt) r5;generalize X9.setCell ⟨L,j*194,none⟩ (.slice a9 ((T j).gens.length+1) c9)=w40 at *;replace C0:=ι (C0.out.kg hkg);replace C1:=ι (C1.out.kg hkg);replace R:=ι (R.out.kg hkg);replace K:=ι (K.out.trans hkg)
    replace HT:=ι r4;clear hkg r1 r2 r3 r4 r5 CG hVg;go_wp2
    go_roundw
    case rel=>exact ⟨j+1,_,V5,by go_num,by omega,by omega,HT,C0,C1,K,R⟩
    case measure=>simp [intOf]; omega
   ·have hjN:¬ (j:Int)≤(at0:Int):=by omega
    obtain rfl:j=at0+1:=by omega
    replace HT:=ι (by have:=HT.out; rwa [putL_all] at this);have HI:=ι (AInv.start (r:=r) HFU.out ha2);go_wp2;simp only [show ((at0:Nat):Int)=(((at0+1:Nat):Int) - 1) by omega]
    go_loopw [9] (fun kv wr=>∃ (k:Nat) (F3:Nat→Prop) (T3:Twr) (V3:Nat→LV),kv=.int .i64 (((k:Nat):Int) - 1)∧i≤k∧k≤at0+1∧Hid (TowAt F3 L n wr T3 V3)∧Hid (CF F3 wr tb 0 (.int .i64 ((n:Nat):Int)))∧Hid (CF F3 wr tb 1 (.slice (some ⟨L,0,none⟩) n n))∧Hid (KG F w F3 wr)∧Hid (AInv n i at0 k T T3 r)) (fun kv _=>(intOf kv+1).toNat - i)
    case atStart=>exact ⟨at0+1,F2,_,V2,rfl,by omega,Nat.le_refl _,HT,C0,C1,K,HI⟩
    case round =>
     clear HT C0 C1 K R HI hjN hj1 hj2 hja;obtain ⟨k0,F3,T3,V3,rfl,hk1,hk2,HT,C0,C1,K,HI⟩:=hrel
     by_cases hki:i<k0
     ·obtain ⟨m,rfl⟩:∃ m,k0=m+1:=⟨k0 - 1,by omega⟩
      simp only [show (((m+1:Nat):Int) - 1)=(m:Int) by omega]
      have hmi:(i:Int)≤(m:Int):=by omega
      have hmn:m<n:=by omega
      have HLV:=ι (HI.out.lvl HFU.out (by omega) (by omega) han' GR.out FR.out);have HUP:=ι HI.out.up
      have HLE:=ι (show (T3 m).gens.length≤5000 by
       have h1:=(HFU.out m (by omega) hmn).2.2;have h2:pot n T m≤4096:=pot_le (fun j a b=>(HFU.out j a b).1) (by omega) hn2;rw [HI.out.put m (by omega) (by omega),putG_in ⟨by omega,by omega⟩]
       simp; omega)
      have HMI:=ι (show i≤m by omega);have HMN:=ι hmn;have HMA:=ι (show m≤at0 by omega);go_upto_region 9 with (fail);refine Rg.wl ?_;refine Rg.lm 53 (.pointer (some ⟨tb,0,none⟩)) ?_;go_frame;refine Rg.lm 54 (.int .i64 ((m:Nat):Int)) ?_;go_frame;refine Rg.lk 55 (exec_fn 142 _ _ _ rfl rfl rfl (Vocl1 _ _)) ?_;refine (HCL.out m HMI.out HMN.out _ L tb _ _ _ HT.out C0.out C1.out HUP.out HLV.out HLE.out).mono ?_;rintro e1 w61 ⟨F9,T9,V9,rfl,hk9,hT9,hc9,hd9⟩;have HI2:=ι (HI.out.step HFU.out HMI.out HMA.out han' (HNO.out han') hc9 hd9);clear hc9 hd9;refine ⟨_,rfl,?_⟩;go_frame;replace HT:=ι hT9;replace C0:=ι (C0.out.kg hk9);replace C1:=ι (C1.out.kg hk9);replace K:=ι (K.out.trans hk9);clear hk9 hT9;go_wp2
      go_roundw
      case rel=>exact ⟨m,_,T9,V9,by go_num,by omega,by omega,HT,C0,C1,K,HI2⟩
      case measure=>simp [intOf]; omega
     ·obtain rfl:k0=i:=by omega
      have hmi:¬ (k0:Int)≤((k0:Int) - 1):=by omega
      have HA2:=ι (AInv.added (i:=k0) HFU.out hin GX.out FX.out (by rw [hA.out]; exact HI.out) (by rw [hA.out]; exact han'));go_wp2
      go_end0
      exact ⟨rfl,F3,K.out,T3,⟨V3,HT.out⟩,HA2.out⟩
end Go.Proofs.YtdnmmibchbceeaaGreat

namespace Go.Proofs.Cm
open Go.Proofs
def lv0:Lv:={ gens:=[],orb:=[],rep:=fun _=>none,tried:=fun _=>0 }
def lv1 (n j:Nat):Lv:={ gens:=[],orb:=[j],rep:=fun z=>if z=j then some (Ma.oneN n) else none,tried:=fun _=>0 }
def newT (n k:Nat):Twr:=fun j=>if j<k then lv1 n j else lv0
theorem newT_full (hj:j<n):Full n (newT n n) j:=by
 have e:newT n n j=lv1 n j:=if_pos hj
 have hr:∀ p u,(lv1 n j).rep p=some u→p=j∧u=Ma.oneN n:=fun p u h=>by
  have h:(if p=j then some (Ma.oneN n) else none)=some u:=h
  by_cases e:p=j
  ·rw [if_pos e] at h; injection h with h; exact ⟨e,h.symm⟩
  ·rw [if_neg e] at h; cases h
 refine ⟨⟨?_,?_,?_,?_,?_,?_,?_,?_,?_,?_,?_,?_,?_,?_⟩,?_,?_⟩ <;> (try rw [e])
 ·intro s hs; cases hs
 ·intro s hs; cases hs
 ·intro h0 s hs
  have e2:newT n n (j+1)=lv1 n (j+1):=if_pos h0;rw [e2] at hs; cases hs
 ·exact if_pos rfl
 ·intro p u h; obtain ⟨_,rfl⟩:=hr p u h; exact gd_one n
 ·intro p u h; obtain ⟨_,rfl⟩:=hr p u h; exact Fx.one (by omega)
 ·intro p u h; obtain ⟨rfl,rfl⟩:=hr p u h; exact ap_one hj
 ·intro p u h; obtain ⟨rfl,_⟩:=hr p u h; exact hj
 ·intro p u h; obtain ⟨_,rfl⟩:=hr p u h; exact .one
 ·exact List.nodup_cons.2 ⟨by simp,List.nodup_nil⟩
 ·intro p
  constructor
  ·intro h
   have h:p∈[j]:=h;rw [List.mem_singleton] at h; subst h;exact ⟨_,if_pos rfl⟩
  ·rintro ⟨u,h⟩
   obtain ⟨rfl,_⟩:=hr p u h;exact List.mem_singleton.2 rfl
 ·intro q; exact Nat.le_refl _
 ·intro p _; rfl
 ·intro q u k hk; exact absurd hk (Nat.not_lt_zero _)
 ·intro q u h; rw [e]; rfl
 ·exact Nat.zero_le _
structure Built (n:Nat) (gs:List Nat→Prop) (T:Twr):Prop where
 full:∀ j,j<n→Full n T j
 sub:∀ s∈(T 0).gens,Gr n gs s
 all:∀ s,gs s→Sd n (trOf T) n s
theorem Built.new:Built n (fun _=>False) (newT n n):=by
 refine ⟨fun j hj=>newT_full hj,fun s hs=>?_,fun s h=>absurd h id⟩;unfold newT at hs
 by_cases h:0<n
 ·rw [if_pos h] at hs; cases hs
 ·rw [if_neg h] at hs; cases hs
theorem Built.add {gs gs':List Nat→Prop} {T T':Twr} {x:List Nat} (h:Built n gs T) (hg:∀ s,gs' s↔gs s∨s=x) (hgd:∀ s,gs' s→Gd n s) (ha:Added n 0 T T' x):Built n gs' T':=by
 have hG:IsG n (Gr n gs'):=Gr.isG hgd;refine ⟨fun j hj=>ha.full j (Nat.zero_le _) hj,ha.gens _ hG (fun s hs=>Gr.sub hG (fun z hz=>.gen _ ((hg z).2 (.inl hz))) (h.sub s hs)) (.gen _ ((hg x).2 (.inr rfl))),fun s hs=>?_⟩
 rcases (hg s).1 hs with hs | rfl
 ·exact Sd.mono (fun j p u _ e=>ha.ext.rep j p u e) (h.all s hs)
 ·exact by have:=ha.sd; rwa [Nat.sub_zero] at this
theorem Built.isTr {n:Nat} {gs:List Nat→Prop} {T:Twr} (h:Built n gs T) (hn:0<n) (hgd:∀ s,gs s→Gd n s):IsTr n (Gr n gs) (trOf T):=by
 have hT:Tow n 0 (fun i s=>s∈(T i).gens) (trOf T):=Lvl.tow fun j _ b=>⟨(h.full j b).1,(h.full j b).2.1⟩;have h1:=hT.isTr hn;have g0:∀ s,s∈(T 0).gens→Gd n s:=(h.full 0 hn).1.ggd
 have e:∀ x,Gr n gs x↔Gr n (fun s=>s∈(T 0).gens) x:=fun x=>by
  constructor
  ·intro hx
   refine Gr.sub (Gr.isG g0) (fun s hs=>?_) hx;exact hT.gr (i:=0) (Nat.le_refl _) hn (d:=n) (by omega) (hgd s hs) (h.all s hs) (by omega)
  ·intro hx
   exact Gr.sub (Gr.isG hgd) h.sub hx
 exact ⟨h1.rp,fun i p u hi hu=>(e u).2 (h1.mem i p u hi hu),fun i x hi hx=>h1.all i x hi ⟨(e x).1 hx.1,hx.2⟩⟩
end Go.Proofs.Cm

namespace Go.Proofs.YtdnmmibchbceeaaGreat
open Go.RowKit
open Go.Proofs
open Go.Proofs.Cm (Lv Twr trOf)
attribute [local irreducible] Go.Calls
theorem add_all {n:Nat} (hn1:1≤n) (hn2:n≤64):∀ d i,n - i≤d→i<n→AddC n i∧∀ k,i≤k→k<n→CloseC n k
 | 0,i,hd,hi=>by omega
 | d+1,i,hd,hi=>by
  have ih:=add_all hn1 hn2 d
  have hc:∀ k,i≤k→k<n→CloseC n k:=fun k h1 h2=>by
   by_cases e:k=i
   ·subst e
    exact close_any hn1 hn2 h2 fun h=>(ih (k+1) (by omega) h).1
   ·exact (ih (i+1) (by omega) (by omega)).2 k (by omega) h2
  exact ⟨add_any hn1 hn2 hi hc,hc⟩
def lvZ:Array Value:=(Array.range 194).map (fun m=>if m<130 then Value.slice none 0 0 else .int .i64 0)
theorem infoLevel:(Tryz.prog.info? 178).map (fun i=>(i.zero.map Value.cells,i.size,i.bytes))=some (some lvZ,194,3632):=by kernel_rfl
theorem lvZ_at (hm:m<194):lvZ[m]! = if m<130 then Value.slice none 0 0 else .int .i64 0:=by
 unfold lvZ;simp [hm]
theorem mkLevels (n:Nat) (hn:n≤1000000) (w:World):(Instr.makeSlice 168 (.int .i64 (n:Int)) (.int .i64 (n:Int))).run Tryz.prog w=.ok (.slice (some ⟨w.heap.size,0,none⟩) n n) (w.alloc (.cells (madeCells lvZ (n*194)) 178)):=by
 obtain ⟨i,hi,hz⟩:=Option.map_eq_some_iff.1 infoLevel;simp only [Prod.mk.injEq] at hz;obtain ⟨h1,h2,h3⟩:=hz;obtain ⟨z,hz,h1⟩:=Option.map_eq_some_iff.1 h1;have hr:=run_make (P:=Tryz.prog) w 168 178 i z Tryz.underlying168 hi hz .i64 .i64 (n:Int) (n:Int) (by omega) (Int.le_refl _) (by rw [h3]; omega) (by omega);rw [hr,h2,h1];simp
def lvV0:LV:={ g:=.slice none 0 0,us:=[],o:=.slice none 0 0,t:=fun _=>.slice none 0 0,b:=fun _=>.slice none 0 0 }
theorem TowAt.start (n:Nat) (w:World) (hF:∀ k,F k→k<w.heap.size):TowAt F w.heap.size n (w.alloc (.cells (madeCells lvZ (n*194)) 178)) (Cm.newT n 0) (fun _=>lvV0):=by
 have hN:∀ j,Cm.newT n 0 j=Cm.lv0:=fun j=>if_neg (Nat.not_lt_zero _);refine ⟨fun k hk=>by have:=hF k hk; simp; omega,fun h=>by have:=hF _ h; omega,?_,fun i hi=>?_,fun i j hi hj hne k h1 h2=>?_⟩
 ·have h:=World.rowIs_alloc w (madeCells lvZ (n*194)) 178 (fun j=>cont (Cm.newT n 0 (j / 194)) lvV0 (j % 194)) (fun j hj=>?_)
  ·rwa [size_madeCells] at h
  ·have hs:lvZ.size=194:=by unfold lvZ; simp
   rw [size_madeCells] at hj;have hm:j % 194<194:=Nat.mod_lt _ (by decide);rw [hN]
   have e:(madeCells lvZ (n*194))[j]?=some (lvZ[j % 194]!):=by
    unfold madeCells;simp [hj,hs]
   rw [e,lvZ_at hm];unfold cont
   congr 1
   by_cases h0:j % 194=0
   ·simp [h0,lvV0]
   by_cases h1:j % 194=1
   ·simp [h1,lvV0]
   by_cases h2:j % 194<66
   ·simp [h0,h1,h2,lvV0]; omega
   by_cases h3:j % 194<130
   ·simp [h0,h1,h2,h3,lvV0]
   ·simp [h0,h1,h2,h3,Cm.lv0]
 ·rw [hN]
  refine ⟨?_,⟨rfl,fun i h=>absurd h (Nat.not_lt_zero _)⟩,?_,fun k h=>by simp [lvV0,Value.ownBlock] at h,fun k h=>by simp [lvV0,Value.ownBlock] at h,fun k h=>by simp [lvV0,Value.ownBlock] at h,fun p x _ h=>by simp [Cm.lv0] at h,fun p _ _=>⟨rfl,rfl⟩⟩
  ·exact World.ownsRow_nil ..
  ·exact World.ownsRow_nil ..
 ·rcases h1 with h1 | h1 <;> simp [lvV0,Value.ownBlock] at h1
def setO (T:Twr) (i p:Nat):Twr:=fun j=>if j=i then { T j with orb:=[p] } else T j
theorem newT_step (n k:Nat):setTo (setO (Cm.newT n k) k k) k k (Ma.oneN n)=Cm.newT n (k+1):=by
 funext j
 unfold setTo setO Cm.newT
 by_cases e:j=k
 ·subst e
  simp [Cm.lv0,Cm.lv1]
 ·by_cases h:j<k
  ·rw [if_neg e,if_neg e,if_pos h,if_pos (by omega)]
  ·rw [if_neg e,if_neg e,if_neg h,if_neg (by omega)]
theorem TowAt.newO {T:Twr} {V:Nat→LV} (h:TowAt F L n w T V) {i o:Nat} (hi:i<n) (ho:o=i*194+1) (p:Nat) :
  (∃ u,(w.alloc (.cells #[.int .i64 ((p:Nat):Int)] 3)).cell? ⟨L,o,none⟩=some u)∧(w.alloc (.cells #[.int .i64 ((p:Nat):Int)] 3)).frozen? ⟨L,o,none⟩=false ∧
  ∃ V',TowAt F L n ((w.alloc (.cells #[.int .i64 ((p:Nat):Int)] 3)).setCell ⟨L,o,none⟩ (.slice (some ⟨w.heap.size,0,none⟩) 1 1)) (setO T i p) V'∧KF F w ((w.alloc (.cells #[.int .i64 ((p:Nat):Int)] 3)).setCell ⟨L,o,none⟩ (.slice (some ⟨w.heap.size,0,none⟩) 1 1)):=by
 subst ho;have hv:=h.lv i hi;have hb:Below w.heap.size w (w.alloc (.cells #[.int .i64 ((p:Nat):Int)] 3)):=(Below.refl _ _).alloc (Nat.le_refl _) _;have hk1:Rg.Kp (fun _=>False) w (w.alloc (.cells #[.int .i64 ((p:Nat):Int)] 3)):=Rg.Kp.of_below hb
 have hsz:(w.alloc (.cells #[.int .i64 ((p:Nat):Int)] 3)).heap.size=w.heap.size+1:=by simp
 have hrow:=rowIs_kp h.row hk1 id;have hnew:=World.ownsRow_lit (base:=0) (e:=3) (size:=1) w #[.int .i64 ((p:Nat):Int)] 1 (Nat.zero_le _) (by unfold maxLen; omega) rfl;generalize (w.alloc (.cells #[.int .i64 ((p:Nat):Int)] 3))=X at *
 refine ⟨⟨_,(hb.cell (p:=⟨L,i*194+1,none⟩) h.lt).trans (getO h hi rfl)⟩,hrow.frozen _,fun j=>if j=i then { V i with o:=.slice (some ⟨w.heap.size,0,none⟩) 1 1 } else V j,?_⟩
 have hres:=put2 (T:=T) (T':=setO T i p) (V:=V) (V':=fun j=>if j=i then { V i with o:=.slice (some ⟨w.heap.size,0,none⟩) 1 1 } else V j) (x:=.slice (some ⟨w.heap.size,0,none⟩) 1 1)
  (fun k hk=>by have:=h.Flt k hk; omega) h.LF hrow (fun j hj hne=>(h.lv j hj).kp hk1 (fun _ _=>id) (fun _ _=>id))
  (fun a b ha hb hab _ _=>h.dist a b ha hb hab) hi (m:=1) (by omega) rfl (fun j hj=>⟨if_neg hj,if_neg hj⟩) ?_ ?_ ?_
 ·exact ⟨hres.1,Rg.Kp.trans (Rg.Kp.of_below hb) hres.2 (fun _ _ e=>e)⟩
 ·intro m' hm'
  simp only [if_true,setO];unfold cont
  by_cases h0:m'=0
  ·simp [h0]
  by_cases h1:m'=1
  ·simp [h1]
  ·simp [h0,h1]
 ·simp only [if_true,setO]
  have hv1:=hv.kp hk1 (fun _ _=>id) (fun _ _=>id);have hlt:=hv.lt;refine ⟨hv1.gown,hv1.gel,hnew,hv1.gF,?_,?_,hv1.some_,hv1.none_⟩
  ·intro k e
   have e:w.heap.size=k:=by simpa [Value.ownBlock] using e
   subst e;exact ⟨fun hf=>by have:=h.Flt _ hf; omega,by have:=h.lt; omega⟩
  ·intro k e e2
   have e2:w.heap.size=k:=by simpa [Value.ownBlock] using e2
   have:=hlt k (.inl e); omega
 ·intro j k hj hne e
  simp only [if_true] at e
  rcases e with e | e
  ·exact h.dist i j hi hj (Ne.symm hne) k (.inl e)
  ·have e:w.heap.size=k:=by simpa [Value.ownBlock] using e
   intro e2; have:=(h.lv j hj).lt k e2; omega

theorem Vqcl0 (args:Array Value) (w:World):(callFunc 140 args).run Tryz.prog w=.ok (.enter 140 args) w:=by kernel_rfl
theorem exec_buildTw {o:Oper} {a:Act} {n:Int} {ad:Option Addr} {c:Nat} (x y:Operand) (ho:o.op=.build 170 #[(0,x),(1,y)]) (hx:a.eval x=.int .i64 n) (hy:a.eval y=.slice ad m c) :
  (execOp a.eval o).run Tryz.prog w=.ok (.value (.agg #[.int .i64 n,.slice ad m c])) w:=by
 unfold execOp;simp only [ho,Sem.run_bind,Sem.run_pure];simp only [List.map_toArray,List.map_cons,List.map_nil,hx,hy]
 have h:(Instr.build 170 #[(0,.int .i64 n),(1,.slice ad m c)]).run Tryz.prog w=.ok (.agg #[.int .i64 n,.slice ad m c]) w:=by kernel_rfl
 first | (rw [h]; rfl) | (erw [h]; rfl)
theorem exec_makeSliceV {o:Oper} {a:Act} (t:TypeId) (x y:Operand) (ho:o.op=.makeSlice t x y) (n m:Value) (hx:a.eval x=n) (hy:a.eval y=m) (hr:(Instr.makeSlice t n m).run Tryz.prog w=.ok v w'):(execOp a.eval o).run Tryz.prog w=.ok (.value v) w':=by
 unfold execOp;simp [ho,hx,hy,hr,Result.andThen]
theorem newTower_any (hn1:1≤n) (hn2:n≤64) (w:World) :
  Calls Tryz.prog 120 #[.int .i64 ((n:Nat):Int)] w fun e w'=>∃ (tb L:Nat) (F':Nat→Prop) (V':Nat→LV),e=.returned (.pointer (some ⟨tb,0,none⟩))∧KG (fun k=>k<w.heap.size) w F' w'∧TowAt F' L n w' (Cm.newT n n) V'∧CF F' w' tb 0 (.int .i64 ((n:Nat):Int))∧CF F' w' tb 1 (.slice (some ⟨L,0,none⟩) n n):=by
 have hs0:=TowAt.start (F:=fun k=>k<w.heap.size) n w (fun _ h=>h);have hb0:Below w.heap.size w (w.alloc (.cells (madeCells lvZ (n*194)) 178)):=(Below.refl _ _).alloc (Nat.le_refl _) _
 have hz0:(w.alloc (.cells (madeCells lvZ (n*194)) 178)).heap.size=w.heap.size+1:=by simp
 have hmk:=mkLevels n (by omega) w
 go_enter Tryz.func120,Tryz.ntmps120
 go_upto_region 1 with (fail);refine Rg.wl ?_;refine Rg.lm 6 (.int .i64 ((n:Nat):Int)) ?_;go_frame;refine Rg.lm 7 (.int .i64 ((n:Nat):Int)) ?_;go_frame;refine Rg.lr 8 (exec_makeSliceV _ _ _ rfl _ _ rfl rfl hmk) ?_;go_frame;generalize w.alloc (.cells (madeCells lvZ (n*194)) 178)=w1 at *;refine Rg.lr 9 (exec_buildTw _ _ rfl rfl rfl) ?_;go_frame;clear hmk;have hb1:Below w1.heap.size w1 (w1.alloc (.cells #[.int .i64 ((n:Nat):Int),.slice (some ⟨w.heap.size,0,none⟩) n n] 170)):=(Below.refl _ _).alloc (Nat.le_refl _) _
 have hz1:(w1.alloc (.cells #[.int .i64 ((n:Nat):Int),.slice (some ⟨w.heap.size,0,none⟩) n n] 170)).heap.size=w1.heap.size+1:=by simp
 have hcn:∀ o,(w1.alloc (.cells #[.int .i64 ((n:Nat):Int),.slice (some ⟨w.heap.size,0,none⟩) n n] 170)).cell? ⟨w1.heap.size,o,none⟩=(#[.int .i64 ((n:Nat):Int),.slice (some ⟨w.heap.size,0,none⟩) n n]:Array Value)[o]?:=fun o=>Rg.cellNew ..;refine Rg.lr 10 (Rg.exec_box _ _ rfl rfl) ?_;go_frame;generalize w1.alloc (.cells #[.int .i64 ((n:Nat):Int),.slice (some ⟨w.heap.size,0,none⟩) n n] 170)=w2 at *;refine Rg.la 3 (.pointer (some ⟨w1.heap.size,0,none⟩)) ?_;go_frame;have HT:=ι (hs0.up hb1);have hFn:Fup (fun k=>k<w.heap.size) w1 w2 w1.heap.size:=.inr ⟨Nat.le_refl _,by omega⟩;have C0:=ι (show CF _ _ w1.heap.size 0 (.int .i64 ((n:Nat):Int)) from ⟨hcn 0,hFn,by omega⟩);have C1:=ι (show CF _ _ w1.heap.size 1 (.slice (some ⟨w.heap.size,0,none⟩) n n) from ⟨hcn 1,hFn,by omega⟩)
 have K:=ι (show KG (fun k=>k<w.heap.size) w (Fup (fun k=>k<w.heap.size) w1 w2) w2 from ⟨fun k hk=>.inl hk,fun k hk=>by rcases hk with hk | hk <;> omega,KF.of_below (hb0.trans ⟨hb1.1,hb1.2,hb1.3,hb1.4,fun k hk=>hb1.5 k (by omega)⟩)⟩)
 generalize Fup (fun k=>k<w.heap.size) w1 w2=F0 at HT C0 C1 K;clear hFn;generalize w1.heap.size=tb at *;obtain ⟨L,hL⟩:∃ L,w.heap.size=L:=⟨_,rfl⟩;rw [hL] at HT C1 ⊢;clear hs0 hb0 hz0 hb1 hz1 hcn;go_upto_region 2 with (fail);refine Rg.wl ?_;refine Rg.lm 11 (.pointer (some ⟨tb,0,none⟩)) ?_;go_frame;refine Rg.lr 12 (exec_nil _ rfl rfl) ?_;go_frame;refine Rg.lr 13 (exec_field _ rfl rfl (towF1 _ _)) ?_;go_frame;refine Rg.lr 14 (Rg.lo (.slice (some ⟨L,0,none⟩) n n) ⟨tb,1,none⟩ (Rg.run_loadSl _ _ Tryz.underlying168 C1.out.cell)) ?_;go_frame;refine Rg.lr 15 (Rg.ln Tryz.underlying168) ?_;go_frame;refine Rg.lm 16 (.int .i64 ((0:Nat):Int)) ?_;go_frame;go_wp2
 go_loopw [16] (fun kv wr=>∃ (k:Nat) (F1:Nat→Prop) (V1:Nat→LV),kv=.int .i64 k∧k≤n∧Hid (TowAt F1 L n wr (Cm.newT n k) V1)∧Hid (CF F1 wr tb 0 (.int .i64 ((n:Nat):Int)))∧Hid (CF F1 wr tb 1 (.slice (some ⟨L,0,none⟩) n n))∧Hid (KG (fun k=>k<w.heap.size) w F1 wr)) (fun kv _=>n - (intOf kv).toNat)
 case atStart=>exact ⟨0,F0,_,rfl,Nat.zero_le _,HT,C0,C1,K⟩
 case round =>
  clear HT C0 C1 K;obtain ⟨k,F0,V1,rfl,hk,HT,C0,C1,K⟩:=hrel
  by_cases hkl:k<n
  ·have hkN:(k:Int)<(n:Int):=by omega
   have hk64:k<64:=by omega
   go_upto_region 5 with (fail);refine Rg.wl ?_;refine Rg.lm 19 (.pointer (some ⟨tb,0,none⟩)) ?_;go_frame;refine Rg.lr 20 (exec_nil _ rfl rfl) ?_;go_frame;refine Rg.lr 21 (exec_field _ rfl rfl (towF1 _ _)) ?_;go_frame;refine Rg.lr 22 (Rg.lo (.slice (some ⟨L,0,none⟩) n n) ⟨tb,1,none⟩ (Rg.run_loadSl _ _ Tryz.underlying168 C1.out.cell)) ?_;go_frame;refine Rg.lm 23 (.int .i64 ((k:Nat):Int)) ?_;go_frame;refine Rg.lr 24 (exec_indexZ0 _ _ rfl Tryz.underlying168 szLevel L (n) (n) (k) rfl rfl hkl) ?_;go_frame;refine Rg.la 5 (.pointer (some ⟨L,k*194,none⟩)) ?_;go_frame;go_upto_region 6 with (fail);refine Rg.wl ?_;refine Rg.lm 25 (.pointer (some ⟨L,k*194,none⟩)) ?_;go_frame;refine Rg.lm 26 (.int .i64 ((k:Nat):Int)) ?_;go_frame;refine Rg.lr 27 (Rg.exec_buildSlice _ _ _ rfl (.int .i64 ((k:Nat):Int)) rfl (run_build1i wr _)) ?_;go_frame;obtain ⟨⟨u5,r2⟩,r3,V5,r4,r5⟩:=HT.out.newO hkl (o:=k*194+1) rfl k
   refine Rg.lr 28 (exec_nil _ rfl rfl) ?_;go_frame;refine Rg.lr 29 (exec_field _ rfl rfl (lvF1 _ _ _)) ?_;go_frame;refine Rg.list_skip none rfl rfl (Rg.exec_store _ _ _ rfl _ rfl _ rfl (Rg.run_storeSl _ infoInts r2 r3)) ?_;go_frame;clear r2 r3;have hkg:=KG.kf' (KG.refl HT.out.Flt) r5;generalize (wr.alloc (.cells #[.int .i64 ((k:Nat):Int)] 3)).setCell ⟨L,k*194+1,none⟩ (.slice (some ⟨wr.heap.size,0,none⟩) 1 1)=w20 at *;replace C0:=ι (C0.out.kg hkg);replace C1:=ι (C1.out.kg hkg);replace K:=ι (K.out.trans hkg);replace HT:=ι r4;clear hkg r4 r5;go_upto_region 7 with (fail);have hV0:Below w20.heap.size w20 w20.drew:=(Below.refl _ _).drew;replace HT:=ι (HT.out.up hV0);replace C0:=ι (C0.out.up hV0);replace C1:=ι (C1.out.up hV0);replace K:=ι (K.out.up hV0);generalize Fup F0 w20 w20.drew=F1 at *;clear hV0;refine Rg.Any.begin (S:=Rg.Both 11 (fun W=>Below w20.drew.heap.size w20.drew W) (fun _=>True)) mix ?_
   generalize w20.drew=w21 at *;have hS:∀ (l:Array Bool) W,Below w21.heap.size w21 W→Rg.Both 11 (fun W=>Below w21.heap.size w21 W) (fun _=>True) l W:=fun l W h=>⟨.inr h,trivial⟩;have hS2:∀ (l:Array Bool) W,l.getD 11 false=true→Rg.Both 11 (fun W=>Below w21.heap.size w21 W) (fun _=>True) l W:=fun l W h=>⟨.inl h,trivial⟩;have hI:Below w21.heap.size w21 w21:=Below.refl _ _;refine Rg.tm 0 11 (.pointer (some ⟨L,k*194,none⟩)) 30 (hS _ _ hI) ?_;go_frame;refine Rg.tm 1 11 (.int .i64 ((k:Nat):Int)) 31 (hS _ _ hI) ?_;go_frame;refine Rg.tm 2 11 (.pointer (some ⟨L,k*194,none⟩)) 32 (hS _ _ hI) ?_;go_frame;refine Rg.tm 3 11 (.int .i64 ((k:Nat):Int)) 33 (hS _ _ hI) ?_;go_frame;refine Rg.tm 4 11 (.int .i64 ((n:Nat):Int)) 34 (hS _ _ hI) ?_;go_frame;refine Rg.tm 6 11 (.int .i64 ((n:Nat):Int)) 36 (hS _ _ hI) ?_;go_frame;refine Rg.tg 8 11 (.pointer (some ⟨L,k*194,none⟩)) 38 rfl rfl (.inl ⟨rfl,fun w _=>exec_nil _ rfl rfl⟩) (hS _ _ hI) ?_;go_frame
   refine Rg.tg 9 11 (.pointer (some ⟨L,k*194+2,none⟩)) 39 rfl rfl (.inl ⟨rfl,fun w _=>exec_field _ rfl rfl (lvF2 _ _ _)⟩) (hS _ _ hI) ?_;go_frame;refine Rg.tg 12 11 (.pointer (some ⟨L,k*194,none⟩)) 41 rfl rfl (.inl ⟨rfl,fun w _=>exec_nil _ rfl rfl⟩) (hS _ _ hI) ?_;go_frame;refine Rg.tg 13 11 (.pointer (some ⟨L,k*194+66,none⟩)) 42 rfl rfl (.inl ⟨rfl,fun w _=>exec_field _ rfl rfl (lvF3 _ _ _)⟩) (hS _ _ hI) ?_;go_frame;refine Rg.Any.one (i:=5) (by kernel_rfl) (Rg.Any.ask (some 35) rfl rfl rfl _ _ (exec_fn1 140 _ _ rfl rfl (Vqcl0 _ _)) ?_);refine (chOne_f (F:=F1) n w21 hn2).mono ?_;rintro e1 w22 ⟨av,rfl,hav,hb⟩;obtain ⟨ab,ao,ac,rfl⟩:=hav.shape' (Cm.gd_one n) hn1;have hI2_u:=Rg.acc hI hb;clear hI;replace HT:=ι (HT.out.up hb);replace C0:=ι (C0.out.up hb);replace C1:=ι (C1.out.up hb);replace K:=ι (K.out.up hb);have AF:=ι hav;generalize Fup F1 w21 w22=F2 at *
   clear hb;refine ⟨_,rfl,(hS _ _ hI2_u),?_⟩;go_frame;refine Rg.Any.one (i:=7) (by kernel_rfl) (Rg.Any.ask (some 37) rfl rfl rfl _ _ (exec_fn1 140 _ _ rfl rfl (Vqcl0 _ _)) ?_);refine (chOne_f (F:=F2) n w22 hn2).mono ?_;rintro e1 w23 ⟨bv,rfl,hbv,hb⟩;obtain ⟨bb,bo,bc,rfl⟩:=hbv.shape' (Cm.gd_one n) hn1;have hI3_u:=Rg.acc hI2_u hb;clear hI2_u;replace HT:=ι (HT.out.up hb);replace C0:=ι (C0.out.up hb);replace C1:=ι (C1.out.up hb);replace AF:=ι (AF.out.up hb);replace K:=ι (K.out.up hb);have BF:=ι hbv;generalize Fup F2 w22 w23=F3 at *;clear hb;refine ⟨_,rfl,(hS _ _ hI3_u),?_⟩;go_frame;refine Rg.tg 10 11 (.pointer (some ⟨L,k*194+2+k,none⟩)) 40 rfl rfl (.inl ⟨rfl,fun w _=>exec_indexArr _ _ rfl Tryz.underlying175 szP L (k*194+2) (k) rfl rfl hk64⟩) (hS _ _ hI3_u) ?_;go_frame;refine Rg.Any.one (i:=11) (by kernel_rfl) (Rg.Any.runSkip none rfl rfl rfl (Rg.exec_store _ _ _ rfl _ rfl _ rfl (Rg.run_storeSl _ infoPerm (getTo HT.out hkl hk64 (by omega)) (HT.out.frozen _))) (hS2 _ _ rfl) ?_)
   go_frame;refine Rg.tg 14 11 (.pointer (some ⟨L,k*194+66+k,none⟩)) 43 rfl rfl (.inl ⟨rfl,fun w _=>exec_indexArr _ _ rfl Tryz.underlying175 szP L (k*194+66) (k) rfl rfl hk64⟩) (hS2 _ _ rfl) ?_;go_frame;have hr1:=HT.out.row.set (k*194+2+k) (.slice (some ⟨ab,ao,none⟩) n ac);refine Rg.Any.one (i:=15) (by kernel_rfl) (Rg.Any.runSkip none rfl rfl rfl (Rg.exec_store _ _ _ rfl _ rfl _ rfl (Rg.run_storeSl _ infoPerm (hr1.cell (by omega)) (hr1.frozen _))) (hS2 _ _ rfl) ?_);go_frame;clear hr1;refine Rg.Any.done (by kernel_rfl) ?_ _;clear hS2;clear hS hI3_u;obtain ⟨V4,hT4,hk4⟩:=HT.out.setTo hkl hk64 (o1:=k*194+2+k) (o2:=k*194+66+k) (by omega) (by omega) AF.out (by rw [Cm.inv_one]; exact BF.out);rw [newT_step] at hT4;have hkg:=KG.kf' (KG.refl HT.out.Flt) hk4;generalize (w23.setCell ⟨L,k*194+2+k,none⟩ (.slice (some ⟨ab,ao,none⟩) n ac)).setCell ⟨L,k*194+66+k,none⟩ (.slice (some ⟨bb,bo,none⟩) n bc)=w60 at *
   replace C0:=ι (C0.out.kg hkg);replace C1:=ι (C1.out.kg hkg);replace K:=ι (K.out.trans hkg);replace HT:=ι hT4;clear hkg hk4 hT4 AF BF;go_wp2
   go_roundw
   case rel=>exact ⟨k+1,_,V4,by go_num,by omega,HT,C0,C1,K⟩
   case measure=>simp [intOf]; omega
  ·obtain rfl:k=n:=by omega
   have hkN:¬ (k:Int)<(k:Int):=by omega
   go_wp2;go_ret;exact ⟨tb,rfl,L,F0,by rw [← hL]; exact K.out,⟨V1,HT.out⟩,C0.out,C1.out⟩

theorem Vrcl0 (args:Array Value) (w:World):(callFunc 120 args).run Tryz.prog w=.ok (.enter 120 args) w:=by kernel_rfl
def GS (F:Nat→Prop) (w:World) (v:Value) (gs:List (List Nat)):Prop:=∃ a c,v=.slice a gs.length c∧(0<gs.length→∃ b o,a=some ⟨b,o,none⟩∧∀ k (hk:k<gs.length),∃ u,CF F w b (o+k) u∧FP F w u gs[k])
theorem FP.of_np {x:List Nat} (h:Rg.NP w v x):FP (fun k=>k<w.heap.size) w v x:=by
 obtain ⟨a,cap,h1,h2,h3,h4,h5⟩:=h;refine ⟨a,cap,h1,h2,h3,h4,fun h0=>?_⟩;obtain ⟨b,o,e1,e2,e3⟩:=h5 h0;exact ⟨b,o,e1,e2,e2,e3⟩
theorem GS.of_rows (h:Rg.Rows w v (gs.map Ma.ofN)):GS (fun k=>k<w.heap.size) w v gs:=by
 obtain ⟨a,cap,e,h2,h3,h4,h5⟩:=h.shape;rw [List.length_map] at e;refine ⟨a,cap,e,fun h0=>?_⟩;obtain ⟨b,o,e1,e2,e3⟩:=h5 (by rw [List.length_map]; exact h0);refine ⟨b,o,e1,fun k hk=>?_⟩;obtain ⟨u,hu,hi⟩:=e3 k (by rw [List.length_map]; exact hk);rw [List.getElem_map] at hi;exact ⟨u,⟨hu,e2,e2⟩,FP.of_np hi⟩
theorem build_any (hn1:1≤n) (hn2:n≤64) (hv:GS (fun k=>k<w.heap.size) w v gs) (hg:∀ s∈gs,Cm.Gd n s) (hgl:gs.length≤1000000) :
  Calls Tryz.prog 97 #[.int .i64 ((n:Nat):Int),v] w fun e w'=>∃ (tb L:Nat) (F':Nat→Prop) (T':Twr) (V':Nat→LV),e=.returned (.pointer (some ⟨tb,0,none⟩))∧KG (fun k=>k<w.heap.size) w F' w'∧TowAt F' L n w' T' V'∧CF F' w' tb 0 (.int .i64 ((n:Nat):Int))∧CF F' w' tb 1 (.slice (some ⟨L,0,none⟩) n n)∧Cm.Built n (·∈gs) T':=by
 obtain ⟨ga,gc,rfl,hgs⟩:=hv;have HGS:=ι hgs;have HG:=ι hg;have HADD:=ι ((add_all hn1 hn2 n 0 (by omega) (by omega)).1);clear hgs hg
 go_enter Tryz.func97,Tryz.ntmps97
 go_upto_region 1 with (fail);refine Rg.wl ?_;refine Rg.lm 8 (.int .i64 ((n:Nat):Int)) ?_;go_frame;refine Rg.lk 9 (exec_fn1 120 _ _ rfl rfl (Vrcl0 _ _)) ?_;refine (newTower_any hn1 hn2 w).mono ?_;rintro e1 w1 ⟨tb,L,F1,V1,rfl,hk1,hT1,hc01,hc11⟩;refine ⟨_,rfl,?_⟩;go_frame;have HT:=ι hT1;have C0:=ι hc01;have C1:=ι hc11;have K:=ι hk1;clear hk1;refine Rg.la 5 (.pointer (some ⟨tb,0,none⟩)) ?_;go_frame;clear hT1 hc01 hc11;have HB:=ι (show Cm.Built n (·∈gs.take 0) (Cm.newT n n) by have:=Cm.Built.new (n:=n); simpa using this);go_wp2
 go_loopw [12] (fun kv wr=>∃ (k:Nat) (F1:Nat→Prop) (T1:Twr) (V1:Nat→LV),kv=.int .i64 k∧k≤gs.length∧Hid (TowAt F1 L n wr T1 V1)∧Hid (CF F1 wr tb 0 (.int .i64 ((n:Nat):Int)))∧Hid (CF F1 wr tb 1 (.slice (some ⟨L,0,none⟩) n n))∧Hid (KG (fun k=>k<w.heap.size) w F1 wr)∧Hid (Cm.Built n (·∈gs.take k) T1)) (fun kv _=>gs.length - (intOf kv).toNat)
 case atStart=>exact ⟨0,F1,_,V1,rfl,Nat.zero_le _,HT,C0,C1,K,HB⟩
 case round =>
  clear HT C0 C1 K HB;obtain ⟨k,F1,T1,V1,rfl,hk,HT,C0,C1,K,HB⟩:=hrel
  by_cases hkl:k<gs.length
  ·have hkN:(k:Int)<(gs.length:Int):=by omega
   have hgs:=HGS.out;obtain ⟨gb,go,rfl,hgk⟩:=hgs (by omega);obtain ⟨u,hcu,hpu⟩:=hgk k hkl;have GX:=ι (HG.out _ (List.getElem_mem hkl));obtain ⟨x,hx⟩:∃ x,Hid (gs[k]=x):=⟨_,ι rfl⟩;rw [hx.out] at hpu GX;obtain ⟨ub,uo,uc,rfl⟩:=hpu.shape' GX.out hn1;have CU:=ι (hcu.kg K.out);have X:=ι (hpu.kg K.out);have HKL:=ι hkl;clear hgs hgk hcu hpu;go_upto_region 4 with (fail);refine Rg.wl ?_;refine Rg.lr 14 (exec_indexS slPerms _ _ rfl gb (go) (gs.length) gc (k) rfl rfl HKL.out) ?_;go_frame;refine Rg.lr 15 (Rg.lo (.slice (some ⟨ub,uo,none⟩) n uc) ⟨gb,go+k,none⟩ (Rg.run_loadSl _ _ Tryz.underlying30 CU.out.cell)) ?_;go_frame;refine Rg.la 7 (.slice (some ⟨ub,uo,none⟩) n uc) ?_;go_frame;go_upto_region 5 with (fail);refine Rg.wl ?_;refine Rg.lm 16 (.pointer (some ⟨tb,0,none⟩)) ?_;go_frame;refine Rg.lm 17 (.slice (some ⟨ub,uo,none⟩) n uc) ?_;go_frame;refine Rg.lk 18 (exec_fn3 121 _ _ _ _ rfl rfl rfl rfl (Vncl2 _ _)) ?_
   refine (HADD.out _ L tb _ _ _ _ _ HT.out C0.out C1.out X.out GX.out (fun j h=>absurd h (Nat.not_lt_zero _)) (fun j _ h=>HB.out.full j h)).mono ?_;rintro e1 w11 ⟨F9,T9,V9,rfl,hk9,hT9,hA9⟩;have HB2:=ι (HB.out.add (gs':=(·∈gs.take (k+1))) (fun s=>by rw [List.take_succ_eq_append_getElem HKL.out,hx.out]; simp) (fun s hs=>HG.out s (List.mem_of_mem_take hs)) hA9);clear hA9;refine ⟨_,rfl,?_⟩;go_frame;replace HT:=ι hT9;replace C0:=ι (C0.out.kg hk9);replace C1:=ι (C1.out.kg hk9);replace CU:=ι (CU.out.kg hk9);replace X:=ι (X.out.kg hk9);replace K:=ι (K.out.trans hk9);clear hk9 hT9;go_wp2
   go_roundw
   case rel=>exact ⟨k+1,F9,T9,V9,by go_num,HKL.out,HT,C0,C1,K,HB2⟩
   case measure=>simp [intOf]; have:=HKL.out; omega
  ·obtain rfl:k=gs.length:=by omega
   have hkN:¬ (gs.length:Int)<(gs.length:Int):=by omega
   have HB2:=ι (by have:=HB.out; rwa [List.take_length] at this);go_wp2;go_ret;exact ⟨tb,rfl,L,F1,K.out,T1,⟨V1,HT.out⟩,C0.out,C1.out,HB2.out⟩
end Go.Proofs.YtdnmmibchbceeaaGreat

namespace Go.Proofs.YtdnmmibchbceeaaGreat
open Go.RowKit
open Go.Proofs
open Go.Proofs.Cm (Lv Twr trOf)
attribute [local irreducible] Go.Calls Go.wpList
theorem least_any (hn1:1≤n) (hn2:n≤64) {tb:Nat} {T:Twr} {V:Nat→LV} (hT:TowAt F0 L n w T V) (hc0:CF F0 w tb 0 (.int .i64 ((n:Nat):Int))) (hc1:CF F0 w tb 1 (.slice (some ⟨L,0,none⟩) n n)) (hH:Cm.IsG n H) (htr:Cm.IsTr n H (trOf T)) (hl:∀ j,j<n→Cm.Lvl n T j) {x:List Nat} {i:Nat} (hx:FP F0 w xv x) (gx:Cm.Gd n x) (hi:i<n) :
  Calls Tryz.prog 125 #[.pointer (some ⟨tb,0,none⟩),xv,.int .i64 ((i:Nat):Int)] w fun e w'=>∃ F' yv y,e=.returned yv∧KG F0 w F' w'∧TowAt F' L n w' T V∧FP F' w' yv y∧Cm.LI H i n x y∧Cm.Gd n y∧Below w.heap.size w w':=by
 have K:=ι (KG.refl hT.Flt);have HT:=ι hT;have C0:=ι hc0;have C1:=ι hc1;have X:=ι hx;have HH:=ι hH;have HTR:=ι htr;have HL:=ι hl;have GX:=ι gx;have KB:=ι (Below.refl w.heap.size w);have HLI:=ι (Cm.LI.start hH hi gx);have hg0:=hc0.cell;clear hT hc0 hc1 hx hH htr hl gx
 go_enter Tryz.func125,Tryz.ntmps125
 go_wp2
 go_loopw [7,1] (fun kv yv wr=>∃ (k:Nat) (y:List Nat) (F1:Nat→Prop),kv=.int .i64 k∧i<k∧k≤n∧Hid (FP F1 wr yv y)∧Hid (TowAt F1 L n wr T V)∧Hid (CF F1 wr tb 0 (.int .i64 ((n:Nat):Int)))∧Hid (CF F1 wr tb 1 (.slice (some ⟨L,0,none⟩) n n))∧Hid (KG F0 w F1 wr)∧Hid (Below w.heap.size w wr)∧Hid (Cm.Gd n y)∧Hid (Cm.LI H i k x y)) (fun kv _ _=>n - (intOf kv).toNat)
 case atStart=>exact ⟨i+1,x,F0,by go_num,by omega,by omega,X,HT,C0,C1,K,KB,GX,HLI⟩
 case round =>
  clear X HT C0 C1 K KB hg0 HLI;obtain ⟨k,y,F,rfl,hk1,hk2,X,HT,C0,C1,K,KB,GY,HLI⟩:=hrel;have hg0:=C0.out.cell
  by_cases hkl:k<n
  ·have hkN:(k:Int)<(n:Int):=by omega
   obtain ⟨yb,yo,yc,rfl⟩:=X.out.shape' GY.out hn1;have hlk:=HL.out k hkl;obtain ⟨oa,oc,hVo⟩:=HT.out.orbL hkl;have CO:=ι (CL.mk (show wr.cell? ⟨L,k*194+1,none⟩=some (.slice oa (T k).orb.length oc) by rw [getO HT.out hkl rfl,hVo]) HT.out.lt);have HK0:=ι (show ∀ m (h:m<(T k).orb.length),m<0→Cm.ap y k≤Cm.ap y (T k).orb[m] from fun m _ h=>absurd h (Nat.not_lt_zero _));have HBK:=ι (show ∃ u,trOf T k k=some u from ⟨_,hlk.self⟩);have HKL:=ι hkl;clear hlk;go_upto_region 5 with (fail);refine Rg.wl ?_;refine Rg.lm 22 (.pointer (some ⟨tb,0,none⟩)) ?_;go_frame;refine Rg.lr 23 (exec_nil _ rfl rfl) ?_;go_frame;refine Rg.lr 24 (exec_field _ rfl rfl (towF1 _ _)) ?_;go_frame;refine Rg.lr 25 (Rg.lo (.slice (some ⟨L,0,none⟩) n n) ⟨tb,1,none⟩ (Rg.run_loadSl _ _ Tryz.underlying168 C1.out.cell)) ?_;go_frame;refine Rg.lm 26 (.int .i64 ((k:Nat):Int)) ?_;go_frame
   refine Rg.lr 27 (exec_indexZ0 _ _ rfl Tryz.underlying168 szLevel L (n) (n) (k) rfl rfl HKL.out) ?_;go_frame;refine Rg.lr 28 (exec_field _ rfl rfl (lvF1 _ _ _)) ?_;go_frame;refine Rg.lr 29 (Rg.lo (.slice oa (T k).orb.length oc) ⟨L,k*194+1,none⟩ (Rg.run_loadSl _ _ Tryz.underlying25 CO.out.cell)) ?_;go_frame;refine Rg.lr 30 (Rg.ln Tryz.underlying25) ?_;go_frame;refine Rg.lm 31 (.int .i64 ((0:Nat):Int)) ?_;go_frame;clear CO hg0;go_wp2
   go_loopw [8,31] (fun bv iv wr=>∃ (b m:Nat) (F1:Nat→Prop),bv=.int .i64 b∧iv=.int .i64 m∧m≤(T k).orb.length∧b<n∧Hid (FP F1 wr (.slice (some ⟨yb,yo,none⟩) n yc) y)∧Hid (TowAt F1 L n wr T V)∧Hid (CF F1 wr tb 0 (.int .i64 ((n:Nat):Int)))∧Hid (CF F1 wr tb 1 (.slice (some ⟨L,0,none⟩) n n))∧Hid (KG F0 w F1 wr)∧Hid (Below w.heap.size w wr)∧Hid (∃ u,trOf T k b=some u)∧Hid (∀ m' (h:m' < (T k).orb.length),m' < m→Cm.ap y b≤Cm.ap y (T k).orb[m'])) (fun _ iv _=>(T k).orb.length - (intOf iv).toNat)
   case atStart=>exact ⟨k,0,F,rfl,rfl,Nat.zero_le _,hkl,X,HT,C0,C1,K,KB,HBK,HK0⟩
   case round =>
    clear X HT C0 C1 K KB HBK HK0;obtain ⟨b,m,F,rfl,rfl,hm,hbn,X,HT,C0,C1,K,KB,HBK,HK0⟩:=hrel;have hoo:=Cm.orb_len (HL.out k hkl)
    have hoN:((T k).orb.length:Int)≤64:=by omega
    by_cases hml:m<(T k).orb.length
    ·have hmN:(m:Int)<((T k).orb.length:Int):=by omega
     obtain ⟨og,oc2,hVo2,hcell,hol⟩:=HT.out.orbS hkl hml;rw [hVo] at hVo2
     injection hVo2 with e1 _ e2
     subst e1 e2;obtain ⟨q,hq⟩:∃ q:Nat,Hid (q=(T k).orb[m]):=⟨_,ι rfl⟩;rw [← hq.out] at hcell;have CQ:=ι (CL.mk hcell hol);have HML:=ι hml;have hqr:=((HL.out k hkl).orb q).1 (by rw [hq.out]; exact List.getElem_mem hml);have HQR:=ι (show ∃ u,trOf T k q=some u from hqr)
     have hqn:q<n:=by obtain ⟨u,hu⟩:=hqr; exact (HL.out k hkl).tlt q u hu
     have CXq:=ι (X.out.ap GY.out hqn);have CXb:=ι (X.out.ap GY.out hbn);obtain ⟨yq,hyq⟩:∃ z:Nat,Hid (z=Cm.ap y q):=⟨_,ι rfl⟩;obtain ⟨yb',hyb⟩:∃ z:Nat,Hid (z=Cm.ap y b):=⟨_,ι rfl⟩;rw [← hyq.out] at CXq;rw [← hyb.out] at CXb;clear hcell hol hqr
     by_cases hlt:yq<yb'
     ·have hltN:(yq:Int)<(yb':Int):=by omega
      go_upto_region 7 with (fail);refine Rg.wl ?_;refine Rg.lr 33 (exec_indexS slInts _ _ rfl og (0) ((T k).orb.length) oc (m) rfl rfl HML.out) ?_;go_frame;refine Rg.lr 34 (Rg.lo (.int .i64 ((q:Nat):Int)) ⟨og,0+m,none⟩ (run_loadInt CQ.out.cell)) ?_;go_frame;refine Rg.la 10 (.int .i64 ((q:Nat):Int)) ?_;go_frame;go_upto_region 8 with (fail);have hV1:Below wr.heap.size wr wr.drew:=(Below.refl _ _).drew;replace KB:=ι (Rg.acc KB.out hV1);clear hV1;have hV0:Below wr.heap.size wr wr.drew:=(Below.refl _ _).drew;replace HT:=ι (HT.out.up hV0);replace C0:=ι (C0.out.up hV0);replace C1:=ι (C1.out.up hV0);replace X:=ι (X.out.up hV0);replace CQ:=ι (CQ.out.up hV0);replace CXq:=ι (CXq.out.up hV0);replace CXb:=ι (CXb.out.up hV0);replace K:=ι (K.out.up hV0);generalize Fup F wr wr.drew=F1 at *;clear hV0;refine Rg.Any.begin (S:=Rg.Both 8 (fun _=>True) (fun W=>Below wr.drew.heap.size wr.drew W)) mix ?_
      generalize wr.drew=w1 at *;have hS:∀ (l:Array Bool) W,Below w1.heap.size w1 W→Rg.Both 8 (fun _=>True) (fun W=>Below w1.heap.size w1 W) l W:=fun l W h=>⟨.inr trivial,h⟩;have hI:Below w1.heap.size w1 w1:=Below.refl _ _;refine Rg.tm 0 8 (.slice (some ⟨yb,yo,none⟩) n yc) 35 (hS _ _ hI) ?_;go_frame;refine Rg.tm 1 8 (.int .i64 ((q:Nat):Int)) 36 (hS _ _ hI) ?_;go_frame;refine Rg.tg 2 8 (.pointer (some ⟨yb,yo+q,none⟩)) 37 rfl rfl (Rg.yields_index slPerm _ _ rfl rfl yb (yo) (n) yc (q) rfl rfl hqn) (hS _ _ hI) ?_;go_frame;refine Rg.tg 3 8 (.int .i64 ((yq:Nat):Int)) 38 rfl rfl (Rg.yc ⟨yb,yo+q,none⟩ (fun W hW=>run_loadInt ((Below.cell (p:=⟨yb,yo+q,none⟩) hW CXq.out.lt).trans CXq.out.cell))) (hS _ _ hI) ?_;go_frame;refine Rg.tm 4 8 (.slice (some ⟨yb,yo,none⟩) n yc) 39 (hS _ _ hI) ?_;go_frame;refine Rg.tm 5 8 (.int .i64 ((b:Nat):Int)) 40 (hS _ _ hI) ?_;go_frame
      refine Rg.tg 6 8 (.pointer (some ⟨yb,yo+b,none⟩)) 41 rfl rfl (Rg.yields_index slPerm _ _ rfl rfl yb (yo) (n) yc (b) rfl rfl hbn) (hS _ _ hI) ?_;go_frame;refine Rg.tg 7 8 (.int .i64 ((yb':Nat):Int)) 42 rfl rfl (Rg.yc ⟨yb,yo+b,none⟩ (fun W hW=>run_loadInt ((Below.cell (p:=⟨yb,yo+b,none⟩) hW CXb.out.lt).trans CXb.out.cell))) (hS _ _ hI) ?_;go_frame;refine Rg.aR 8 43 rfl rfl (Rg.bn (.bool true) .lss (h:=b_lss _ Rg.dT)) (hS _ _ hI) ?_;go_frame;refine Rg.Any.done (by kernel_rfl) ?_ _;clear hS hI
      have HK1:=ι (show ∀ m' (h:m' < (T k).orb.length),m' < m+1→Cm.ap y q≤Cm.ap y (T k).orb[m'] from fun m' h h2=>by
       have a1:=hyq.out;have a2:=hyb.out
       by_cases e:m'=m
       ·subst e
        rw [← hq.out]; omega
       ·have:=HK0.out m' h (by omega)
        omega)
      simp only [Nat.zero_add];go_wp2
      go_roundw
      case rel=>exact ⟨q,m+1,_,rfl,by go_num,HML.out,hqn,X,HT,C0,C1,K,KB,HQR,HK1⟩
      case measure=>simp [intOf]; have:=HML.out; omega
     ·have hltN:¬ (yq:Int)<(yb':Int):=by omega
      go_upto_region 7 with (fail);refine Rg.wl ?_;refine Rg.lr 33 (exec_indexS slInts _ _ rfl og (0) ((T k).orb.length) oc (m) rfl rfl HML.out) ?_;go_frame;refine Rg.lr 34 (Rg.lo (.int .i64 ((q:Nat):Int)) ⟨og,0+m,none⟩ (run_loadInt CQ.out.cell)) ?_;go_frame;refine Rg.la 10 (.int .i64 ((q:Nat):Int)) ?_;go_frame;go_upto_region 8 with (fail);have hV1:Below wr.heap.size wr wr.drew:=(Below.refl _ _).drew;replace KB:=ι (Rg.acc KB.out hV1);clear hV1;have hV0:Below wr.heap.size wr wr.drew:=(Below.refl _ _).drew;replace HT:=ι (HT.out.up hV0);replace C0:=ι (C0.out.up hV0);replace C1:=ι (C1.out.up hV0);replace X:=ι (X.out.up hV0);replace CQ:=ι (CQ.out.up hV0);replace CXq:=ι (CXq.out.up hV0);replace CXb:=ι (CXb.out.up hV0);replace K:=ι (K.out.up hV0);generalize Fup F wr wr.drew=F1 at *;clear hV0;refine Rg.Any.begin (S:=Rg.Both 8 (fun _=>True) (fun W=>Below wr.drew.heap.size wr.drew W)) mix ?_
      generalize wr.drew=w2 at *;have hS:∀ (l:Array Bool) W,Below w2.heap.size w2 W→Rg.Both 8 (fun _=>True) (fun W=>Below w2.heap.size w2 W) l W:=fun l W h=>⟨.inr trivial,h⟩;have hI:Below w2.heap.size w2 w2:=Below.refl _ _;refine Rg.tm 0 8 (.slice (some ⟨yb,yo,none⟩) n yc) 35 (hS _ _ hI) ?_;go_frame;refine Rg.tm 1 8 (.int .i64 ((q:Nat):Int)) 36 (hS _ _ hI) ?_;go_frame;refine Rg.tg 2 8 (.pointer (some ⟨yb,yo+q,none⟩)) 37 rfl rfl (Rg.yields_index slPerm _ _ rfl rfl yb (yo) (n) yc (q) rfl rfl hqn) (hS _ _ hI) ?_;go_frame;refine Rg.tg 3 8 (.int .i64 ((yq:Nat):Int)) 38 rfl rfl (Rg.yc ⟨yb,yo+q,none⟩ (fun W hW=>run_loadInt ((Below.cell (p:=⟨yb,yo+q,none⟩) hW CXq.out.lt).trans CXq.out.cell))) (hS _ _ hI) ?_;go_frame;refine Rg.tm 4 8 (.slice (some ⟨yb,yo,none⟩) n yc) 39 (hS _ _ hI) ?_;go_frame;refine Rg.tm 5 8 (.int .i64 ((b:Nat):Int)) 40 (hS _ _ hI) ?_;go_frame
      refine Rg.tg 6 8 (.pointer (some ⟨yb,yo+b,none⟩)) 41 rfl rfl (Rg.yields_index slPerm _ _ rfl rfl yb (yo) (n) yc (b) rfl rfl hbn) (hS _ _ hI) ?_;go_frame;refine Rg.tg 7 8 (.int .i64 ((yb':Nat):Int)) 42 rfl rfl (Rg.yc ⟨yb,yo+b,none⟩ (fun W hW=>run_loadInt ((Below.cell (p:=⟨yb,yo+b,none⟩) hW CXb.out.lt).trans CXb.out.cell))) (hS _ _ hI) ?_;go_frame;refine Rg.aR 8 43 rfl rfl (Rg.bn (.bool false) .lss (h:=b_lss _ Rg.dF)) (hS _ _ hI) ?_;go_frame;refine Rg.Any.done (by kernel_rfl) ?_ _;clear hS hI
      have HK1:=ι (show ∀ m' (h:m' < (T k).orb.length),m' < m+1→Cm.ap y b≤Cm.ap y (T k).orb[m'] from fun m' h h2=>by
       have a1:=hyq.out;have a2:=hyb.out
       by_cases e:m'=m
       ·subst e
        rw [← hq.out]; omega
       ·have:=HK0.out m' h (by omega)
        omega)
      simp only [Nat.zero_add];go_wp2
      go_roundw
      case rel=>exact ⟨b,m+1,_,rfl,by go_num,HML.out,hbn,X,HT,C0,C1,K,KB,HBK,HK1⟩
      case measure=>simp [intOf]; have:=HML.out; omega
    ·obtain rfl:m=(T k).orb.length:=by omega
     have hmN:¬ ((T k).orb.length:Int)<((T k).orb.length:Int):=by omega
     have HALL:=ι (show ∀ q',trOf T k q'≠none→Cm.ap y b≤Cm.ap y q' from fun q' hq'=>by
      obtain ⟨u,hu⟩:=Option.ne_none_iff_exists'.1 hq';obtain ⟨m',hm',rfl⟩:=List.getElem_of_mem (((HL.out k hkl).orb q').2 ⟨u,hu⟩)
      exact HK0.out m' hm' hm')
     obtain ⟨u,hu⟩:=HBK.out;have HST:=ι (Cm.LI.step HH.out HTR.out GX.out hk1 hkl HLI.out hu HALL.out);have GU:=ι ((HL.out k hkl).tgd b u hu);have GM:=ι (Cm.gd_mul GU.out GY.out)
     have hb64:b<64:=by omega
     clear HALL HK0 HBK
     by_cases hbk:b=k
     ·have hbN:(b:Int)=(k:Int):=by omega
      have HE:=ι (show Ma.mulN u y=y by
       subst hbk;have:=(HL.out b hkl).self;have e:some u=some (Ma.oneN n):=hu.symm.trans this
       injection e with e
       rw [e,Cm.one_mul GY.out])
      clear hbk hu;go_upto_region 11 with (fail);refine Rg.wl ?_;refine Rg.lm 46 (.int .i64 ((b:Nat):Int)) ?_;go_frame;refine Rg.lm 47 (.int .i64 ((k:Nat):Int)) ?_;go_frame;refine Rg.lr 48 (Rg.bn (.bool false) .neq (h:=b_neqB _ Rg.dF)) ?_;go_frame;have hg0:=C0.out.cell;go_wp2
      go_roundw
      case rel=>exact ⟨k+1,y,_,by go_num,by omega,by omega,X,HT,C0,C1,K,KB,GY,ι (by have:=HST.out; rwa [HE.out] at this)⟩
      case measure=>simp [intOf]; omega
     ·have hbN:¬ (b:Int)=(k:Int):=by omega
      obtain ⟨ub,uo,uc,hVu,hUP⟩:=HT.out.toS hkl hb64 hu GU.out hn1;have UP:=ι hUP;have CU:=ι (CL.mk (show wr.cell? ⟨L,k*194+2+b,none⟩=some (.slice (some ⟨ub,uo,none⟩) n uc) by rw [getTo HT.out hkl hb64 (by omega),hVu]) HT.out.lt);clear hbk hu hVu hUP;go_upto_region 11 with (fail);refine Rg.wl ?_;refine Rg.lm 46 (.int .i64 ((b:Nat):Int)) ?_;go_frame;refine Rg.lm 47 (.int .i64 ((k:Nat):Int)) ?_;go_frame;refine Rg.lr 48 (Rg.bn (.bool true) .neq (h:=b_neqB _ Rg.dT)) ?_;go_frame;go_upto_region 12 with (fail);refine Rg.wl ?_;refine Rg.lm 49 (.pointer (some ⟨tb,0,none⟩)) ?_;go_frame;refine Rg.lr 50 (exec_nil _ rfl rfl) ?_;go_frame;refine Rg.lr 51 (exec_field _ rfl rfl (towF1 _ _)) ?_;go_frame;refine Rg.lr 52 (Rg.lo (.slice (some ⟨L,0,none⟩) n n) ⟨tb,1,none⟩ (Rg.run_loadSl _ _ Tryz.underlying168 C1.out.cell)) ?_;go_frame;refine Rg.lm 53 (.int .i64 ((k:Nat):Int)) ?_;go_frame
      refine Rg.lm 54 (.int .i64 ((b:Nat):Int)) ?_;go_frame;refine Rg.lr 55 (exec_indexZ0 _ _ rfl Tryz.underlying168 szLevel L (n) (n) (k) rfl rfl HKL.out) ?_;go_frame;refine Rg.lr 56 (exec_field _ rfl rfl (lvF2 _ _ _)) ?_;go_frame;refine Rg.lr 57 (exec_indexArr _ _ rfl Tryz.underlying175 szP L (k*194+2) (b) rfl rfl hb64) ?_;go_frame;refine Rg.lr 58 (Rg.lo (.slice (some ⟨ub,uo,none⟩) n uc) ⟨L,k*194+2+b,none⟩ (Rg.run_loadSl _ _ Tryz.underlying30 CU.out.cell)) ?_;go_frame;refine Rg.lm 59 (.slice (some ⟨yb,yo,none⟩) n yc) ?_;go_frame;refine Rg.lk 60 (exec_fn 146 _ _ _ rfl rfl rfl (Vmcl0 _ _)) ?_;refine (chMul_f UP.out X.out GU.out GY.out hn1 hn2).mono ?_;rintro e1 w3 ⟨mv,rfl,hmv,hb⟩;replace KB:=ι (Rg.acc KB.out hb);refine ⟨_,rfl,?_⟩;go_frame;replace HT:=ι (HT.out.up hb);replace C0:=ι (C0.out.up hb);replace C1:=ι (C1.out.up hb);replace X:=ι (X.out.up hb);replace UP:=ι (UP.out.up hb)
      replace CU:=ι (CU.out.up hb);replace K:=ι (K.out.up hb);have MV:=ι hmv;generalize Fup F wr w3=F1 at *;clear hb;refine Rg.la 1 (mv) ?_;go_frame;have hg0:=C0.out.cell;go_wp2
      go_roundw
      case rel=>exact ⟨k+1,_,_,by go_num,by omega,by have:=HKL.out; omega,MV,HT,C0,C1,K,KB,GM,HST⟩
      case measure=>simp [intOf]; have:=HKL.out; omega
  ·obtain rfl:k=n:=by omega
   have hkN:¬ (k:Int)<(k:Int):=by omega
   go_wp2;go_ret;exact ⟨_,_,rfl,K.out,HT.out,y,X.out,HLI.out,GY.out,KB.out⟩
end Go.Proofs.YtdnmmibchbceeaaGreat

namespace Go.Proofs.YtdnmmibchbceeaaGreat
open Go.RowKit
open Go.Proofs
open Go.Shelf
attribute [local go_sem] Oper.semAt_some
def upto {α:Type} (f:Nat→α) (k:Nat):List α:=(List.range k).map f
theorem upto_succ {α:Type} (f:Nat→α) (k:Nat):upto f (k+1)=upto f k++[f k]:=by simp [upto,List.range_succ]
theorem upto_length {α:Type} (f:Nat→α) (k:Nat):(upto f k).length=k:=by simp [upto]
theorem upto_all (zs:List Int):upto (fun j=>zs[j]?.getD 0) zs.length=zs:=by
 apply List.ext_getElem
 ·simp [upto]
 ·intro i h1 h2
  simp [upto,h2]
theorem upto_take (zs:List Int) (hk:k≤zs.length):upto (fun j=>zs[j]?.getD 0) k=zs.take k:=by
 apply List.ext_getElem
 ·simp [upto,hk]
 ·intro i h1 h2
  have:i<zs.length:=by simp [upto] at h1; omega
  simp [upto,this]
theorem values1_in (F:Fence) (n:Nat) (h7:F.fn 145) (hro:F.round=none) (hn:1≤n) (l Bs n₀ b off len cap:Nat) (zs:List Int) (hreach:len*8≤140737488351232) (hb:b<n₀) (J Jx:List Int→World→Prop)
  (hY:∀ pre x W,J pre W→pre.length<len→YieldAt F (n - 1) Tryz.prog l #[.int .i64 x] W fun e W' =>
   (e=.returned (.bool true)∧J (pre++[x]) W'∧Below n₀ W W')∨(e=.returned (.bool false)∧Jx (pre++[x]) W'))
  (W:World) (hBs:W.cell? ⟨Bs,0,none⟩=some (.slice (some ⟨b,off,none⟩) len cap)) (hc:∀ j,j<len→W.cell? ⟨b,off+j,none⟩=some (.int .i64 (zs[j]?.getD 0))) (h0:J [] W) :
  CallsIn F n Tryz.prog 145 #[.func (.yield l) #[] #[],.pointer (some ⟨Bs,0,none⟩)] W fun e W'=>(∃ v,e=.returned v) ∧
   ((∃ ys,ys=upto (fun j=>zs[j]?.getD 0) len∧J ys W')∨(∃ pre,(∃ k,k≤len∧pre=upto (fun j=>zs[j]?.getD 0) k)∧Jx pre W')):=by
 refine callsIn_of_wp Tryz.func145 rfl h7 ?_ hro;simp only [Tryz.ntmps145,List.size_toArray,List.length_cons,List.length_nil,Nat.reduceAdd,Nat.reduceSub,Array.replicate_succ,Array.replicate_zero,List.push_toArray,List.append_toArray,List.nil_append,List.cons_append]
 gi_wp2
 gi_loopw [7] (fun i wr=>∃ k:Nat,k≤len∧i=.int .i64 k∧J (upto (fun j=>zs[j]?.getD 0) k) wr∧Below n₀ W wr)
  (fun i _=>len - (intOf i).toNat)
 case atStart=>exact ⟨0,Nat.zero_le _,rfl,h0,Below.refl _ _⟩
 case round =>
  obtain ⟨k,hk,rfl,hJs,hnx⟩:=hrel;have hcx:k<len→wr.cell? ⟨b,off+k,none⟩=some (.int .i64 (zs[k]?.getD 0)):=fun h=>(hnx.cell (p:=⟨b,off+k,none⟩) hb).trans (hc k h)
  by_cases hlt:k<len
  ·obtain ⟨fn,tmps,assign,body,hy,hR⟩:=hY _ (zs[k]?.getD 0) wr hJs (by rw [upto_length]; exact hlt)
   have hcx':=hcx hlt
   gi_wp2
   refine hR.mono ?_
   rintro e W3 (⟨rfl,hJ3,hk3⟩ | ⟨rfl,hJx3⟩)
   ·gi_wp2
    go_roundw
    case rel=>exact ⟨k+1,by omega,by simp,by rw [upto_succ]; exact hJ3,hnx.trans hk3⟩
    case measure=>simp [intOf]; omega
   ·gi_wp2
    refine bodyPost_ret (results_none rfl _ _ _) rfl ?_;exact ⟨⟨_,rfl⟩,.inr ⟨_,⟨k+1,by omega,(upto_succ _ _).symm⟩,hJx3⟩⟩
  ·obtain rfl:k=len:=by omega
   gi_wp2
   go_end0
   exact ⟨⟨_,rfl⟩,.inl ⟨_,rfl,hJs⟩⟩
def SInts (n₀:Nat) (W:World) (sv:Value) (zs:List Int):Prop:=∃ b off cap,sv=.slice (some ⟨b,off,none⟩) zs.length cap∧b<n₀∧∀ j,j<zs.length→W.cell? ⟨b,off+j,none⟩=some (.int .i64 (zs[j]?.getD 0))
theorem SInts.below {A B:World} (h:Below n₀ A B) {zs:List Int}:SInts n₀ A sv zs→SInts n₀ B sv zs
 | ⟨b,off,cap,e,hb,hc⟩=>⟨b,off,cap,e,hb,fun j hj=>(h.cell (p:=⟨b,off+j,none⟩) hb).trans (hc j hj)⟩
theorem values_in (F:Fence) (n:Nat) (h5:F.fn 123) (hro:F.round=none) (a:Option Addr) (len cap:Nat) (w:World) :
  CallsIn F n Tryz.prog 123 #[.slice a len cap] w fun e w'=>e=.returned (.func (.func 145) #[] #[.pointer (some ⟨w.heap.size,0,none⟩)])∧w'=w.alloc (.cells #[.slice a len cap] 25):=by
 refine callsIn_of_wp Tryz.func123 rfl h5 ?_ hro;simp only [Tryz.ntmps123,List.size_toArray,List.length_cons,List.length_nil,Nat.reduceAdd,Nat.reduceSub,Array.replicate_succ,Array.replicate_zero,List.push_toArray,List.append_toArray,List.nil_append,List.cons_append]
 gi_wp2
 go_ret;exact ⟨rfl,rfl⟩
theorem values_stops (F:Fence) (n:Nat) (h7:F.fn 145) (hro:F.round=none) (hn:1≤n) (Bs n₀:Nat) (sv:Value) (zs:List Int) (hreach:zs.length*8≤140737488351232) (w:World) (hBs:Bs<w.heap.size) (hn₀:n₀≤w.heap.size)
  (hc:w.cell? ⟨Bs,0,none⟩=some sv) (hI:SInts n₀ w sv zs) :
  SeqStopsK F n Tryz.prog 145 #[.pointer (some ⟨Bs,0,none⟩)] (fun x:Int=>#[Value.int .i64 x]) (Below n₀) (fun ys=>ys=zs) (fun pre=>pre <+: zs) zs.length w:=fun l J Jx W hW _ _ hY h0=>by
 have hc':=(hW.cell (p:=⟨Bs,0,none⟩) hBs).trans hc;obtain ⟨b,off,cap,rfl,hb,hcs⟩:=hI.below (hW.mono hn₀);refine (values1_in F n h7 hro hn l Bs n₀ b off zs.length cap zs hreach hb J Jx hY W hc' hcs h0).mono ?_
 rintro e W' ⟨he,⟨ys,rfl,hj⟩ | ⟨pre,⟨k,hk,rfl⟩,hj⟩⟩
 ·exact ⟨he,.inl ⟨_,upto_all zs,hj⟩⟩
 ·exact ⟨he,.inr ⟨_,by rw [upto_take zs hk]; exact List.take_prefix _ _,hj⟩⟩
theorem infoI:(Tryz.prog.info? 3).map (fun i=>(i.zero,i.size,i.bytes))=some (some (.int .i64 0),1,8):=by kernel_rfl
theorem appendSeq_in (F:Fence) (n:Nat) (h3:F.fn 157) (h5:F.fn 145) (hro:F.round=none) (hn:3≤n) (Bs:Nat) (sv:Value) (zs:List Int) (hlen:zs.length≤1000000) (w:World) (hBs:Bs<w.heap.size) (hc0:w.cell? ⟨Bs,0,none⟩=some sv) (hI:SInts w.heap.size w sv zs) :
  CallsIn F n Tryz.prog 157 #[.slice none 0 0,.func (.func 145) #[] #[.pointer (some ⟨Bs,0,none⟩)]] w fun e W'=>∃ v,e=.returned v∧W'.ownsRow w.heap.size 3 1 v zs.length (zs.map (Value.int .i64))∧Below w.heap.size w W':=by
 have h1:1≤n:=by omega
 obtain ⟨i0,hi,hz0,hz1,hz2⟩:=info_parts infoI;refine callsIn_of_wp_marks Tryz.func157 rfl h3 ?_ hro;simp only [Tryz.ntmps157,List.size_toArray,List.length_cons,List.length_nil,Nat.reduceAdd,Nat.reduceSub,Array.replicate_succ,Array.replicate_zero,List.push_toArray,List.append_toArray,List.nil_append,List.cons_append]
 gi_wp2
 have bO:=Boxed.new w 25 (.slice none 0 0);have hB0:Below w.heap.size w (w.alloc (.cells #[.slice none 0 0] 25)):=(Below.refl _ w).alloc (Nat.le_refl _) _
 refine wpIn_rangeFunc_ownG hro h1 (gf:=145) (lb:=#[.pointer (some ⟨Bs,0,none⟩)]) rfl h5 (enters_of Tryz.func145 (by kernel_rfl) rfl)
  (values_stops F (n - 1) h5 hro (by omega) Bs w.heap.size sv zs (by omega) _ (by simp; omega) (by simp) ((hB0.cell (p:=⟨Bs,0,none⟩) hBs).trans hc0) (hI.below hB0)) belowK_t (belowK_b (by simp)) (Below.refl _ _) (fun _=>rfl)
  (fun pre W=>(∃ v,Boxed W w.heap.size 25 v∧W.ownsRow w.heap.size 3 1 v pre.length (pre.map (Value.int .i64))∧(v=.slice none 0 0↔pre=[]))∧Below w.heap.size w W)
  (fun _ _ _=>False)
  (OwnFrom.and (Own.from (holdsRow_own w.heap.size w.heap.size 25 3 1 (fun pre=>pre.length) (fun pre=>pre.map (Value.int .i64)) (fun pre v=>v=.slice none 0 0↔pre=[])) _) (ownFrom_below (Nat.le_refl _) (by simp)))
  (fun _ _ _ _ _ hs _ _=>hs)
  ⟨⟨_,bO,World.ownsRow_nil _ _ _ _,by simp⟩,hB0⟩
  (fun x=>{ tmps:=#[.slice none 0 0,.func (.func 145) #[] #[.pointer (some ⟨Bs,0,none⟩)],.pointer (some ⟨w.heap.size,0,none⟩),undef,.slice none 0 0,.int .i64 x,.func (.func 145) #[] #[.pointer (some ⟨Bs,0,none⟩)],.int .i64 x,undef,undef,undef,undef,undef],defers:=[] }) ?assign ?body ?done ?stop
 case assign =>
  intro l x W K hK
  gi_wp2
  exact hK
 case body =>
  rintro l pre x W ⟨⟨v,hv,hrow,hnil⟩,hB⟩ hlt;have hc:=hv.cell
  gi_wp2_with (gi_at_builtin; refine wpListIn_append_own _ rfl _ _ 25 rfl w.heap.size 3 i0 (.int .i64 0) 1 8 Tryz.underlying25 hi hz0 hz1 hz2 rfl (by decide) _ _ _ rfl (hrow.alloc _) ⟨W.heap.size,0,none⟩ 1 1 [.int .i64 x] rfl rfl (cell_one_new _ _ _) (by simp [Value.oneCell']) (by unfold maxLen; omega) (by omega) (by have:=hB.size; simp; omega) ?_; intro v' w1 hown' hgrow _; obtain ⟨g',cap',rfl⟩:=ownsRow_succ hown'; obtain ⟨hv1,hv2,hr2,hk2,hb2⟩:=hv.appended (by decide) hrow hB.size (Nat.le_refl _) hown' hgrow; have hc1:=hv1.cell; have hf1:=hv1.frozen)
  exact ⟨hk2.from _,hb2,⟨_,hv2,by simpa using hr2,by simp⟩,hB.trans hb2⟩
 case done =>
  rintro D ys W hD rfl ⟨⟨v,hv,hrow,hnil⟩,hB⟩ hK;have hc:=hv.cell
  gi_wp2
  refine ⟨by simp,.inl ⟨_,_,rfl,run_takeDeferred hK,?_⟩⟩;exact ⟨_,results_tmp rfl _ _ _,v,rfl,ownsRow_putObj hrow _ hK rfl,hB.trans (belowK_b (w:=w) (Nat.le_refl _) W D _ _ (by simp at hD; omega) hK rfl rfl)⟩
 case stop =>
  rintro D c pre W _ _ h _;exact h.elim
end Go.Proofs.YtdnmmibchbceeaaGreat

namespace Go.Proofs.YtdnmmibchbceeaaGreat
open Go.RowKit
open Go.Proofs
open Go.Proofs.Ob
attribute [local irreducible] Go.Calls
theorem exec_makeSlice {o:Oper} {a:Act} (t:TypeId) (x y:Operand) (ho:o.op=.makeSlice t x y) (n m:Value) (hx:a.eval x=n) (hy:a.eval y=m) (hr:(Instr.makeSlice t n m).run Tryz.prog w=.ok v w'):(execOp a.eval o).run Tryz.prog w=.ok (.value v) w':=by
 unfold execOp;simp only [ho,hx,hy,Sem.run_bind,Sem.run_pure,hr,Result.andThen_ok]

theorem RowsF.grown {b:Nat} {ll:List (List Int)} (h:RowsF B w v ll) (hg:w.grownBy W (some b)) (hb:b<B):RowsF B W v ll :=
 h.keep hg.size fun b2 o h1 h2=>World.cell?_of_block (a:=⟨b2,o,none⟩) (hg.block b2 h2 (fun e=>by simp at e; omega))
end Go.Proofs.YtdnmmibchbceeaaGreat

namespace Go.Proofs.YtdnmmibchbceeaaGreat
open Go.RowKit
open Go.Proofs
attribute [local irreducible] Go.Calls
theorem infoChain:(Tryz.prog.info? 87).map (fun i=>(i.zero,i.size,i.bytes))=some (some (.agg #[.int .i64 0,.slice none 0 0,.slice none 0 0]),3,56):=by kernel_rfl
structure Tri (w:World) (b:Nat) (x y z:Value):Prop where
 c0:w.cell? ⟨b,0,none⟩=some x
 c1:w.cell? ⟨b,1,none⟩=some y
 c2:w.cell? ⟨b,2,none⟩=some z
 f0:w.frozen? ⟨b,0,none⟩=false
 f1:w.frozen? ⟨b,1,none⟩=false
 f2:w.frozen? ⟨b,2,none⟩=false
 lt:b<w.heap.size
theorem Tri.upto {b:Nat} {x y:Value} (h:Tri w b x y z) (hb:Below B w w') (hB:b<B):Tri w' b x y z :=
 ⟨(hb.cell (p:=⟨b,0,none⟩) hB).trans h.c0,(hb.cell (p:=⟨b,1,none⟩) hB).trans h.c1,(hb.cell (p:=⟨b,2,none⟩) hB).trans h.c2,(hb.frozen (p:=⟨b,0,none⟩) hB).trans h.f0,(hb.frozen (p:=⟨b,1,none⟩) hB).trans h.f1,(hb.frozen (p:=⟨b,2,none⟩) hB).trans h.f2,Nat.lt_of_lt_of_le h.lt hb.size⟩
theorem Tri.below {b:Nat} {x y:Value} (h:Tri w b x y z) (hb:Below w.heap.size w w'):Tri w' b x y z:=h.upto hb h.lt
theorem Tri.kp {b:Nat} {x y:Value} (h:Tri w b x y z) (hk:Rg.Kp M w w') (hM:¬ M b):Tri w' b x y z:=by
 have e:=hk.block b h.lt hM;exact ⟨(World.cell?_of_block (a:=⟨b,0,none⟩) e).trans h.c0,(World.cell?_of_block (a:=⟨b,1,none⟩) e).trans h.c1,(World.cell?_of_block (a:=⟨b,2,none⟩) e).trans h.c2,(World.frozen?_of_block (a:=⟨b,0,none⟩) e).trans h.f0,(World.frozen?_of_block (a:=⟨b,1,none⟩) e).trans h.f1,(World.frozen?_of_block (a:=⟨b,2,none⟩) e).trans h.f2,Nat.lt_of_lt_of_le h.lt hk.size⟩
theorem Tri.new (w:World) (x y z:Value):Tri (w.alloc (.cells #[x,y,z] 87)) w.heap.size x y z :=
 ⟨by rw [Rg.cellNew]; rfl,by rw [Rg.cellNew]; rfl,by rw [Rg.cellNew]; rfl,frozenNewN _ _ _ 0 _,frozenNewN _ _ _ 0 _,frozenNewN _ _ _ 0 _,by simp⟩
theorem run_storeC {b:Nat} (d:Int) (a:Option Addr) (n c:Nat) (a':Option Addr) (n' c':Nat) (h:Tri w b u1 u2 u3) :
  (storeVar 87 ⟨b,0,none⟩ (.agg #[.int .i64 d,.slice a n c,.slice a' n' c'])).run Tryz.prog w=.ok () (((w.setCell ⟨b,0,none⟩ (.int .i64 d)).setCell ⟨b,1,none⟩ (.slice a n c)).setCell ⟨b,2,none⟩ (.slice a' n' c')):=by
 obtain ⟨i0,hi,hz0,hz1,hz2⟩:=info_parts infoChain
 have g2:(w.setCell ⟨b,0,none⟩ (.int .i64 d)).cell? ⟨b,1,none⟩=some u2:=by
  rw [World.cell?_setCell_other (h:=by intro e; injection e with e1 e2; omega) ..]
  exact h.c1
 have gf:(w.setCell ⟨b,0,none⟩ (.int .i64 d)).frozen? ⟨b,1,none⟩=false:=by rw [World.frozen?_setCell]; exact h.f1
 have g3:((w.setCell ⟨b,0,none⟩ (.int .i64 d)).setCell ⟨b,1,none⟩ (.slice a n c)).cell? ⟨b,2,none⟩=some u3:=by
  rw [World.cell?_setCell_other (h:=by intro e; injection e with e1 e2; omega) ..,World.cell?_setCell_other (h:=by intro e; injection e with e1 e2; omega) ..]
  exact h.c2
 have gf3:((w.setCell ⟨b,0,none⟩ (.int .i64 d)).setCell ⟨b,1,none⟩ (.slice a n c)).frozen? ⟨b,2,none⟩=false:=by rw [World.frozen?_setCell,World.frozen?_setCell]; exact h.f2
 have ha0:(⟨b,0,none⟩:Addr).add 0=⟨b,0,none⟩:=by simp [Addr.add]
 have ha1:(⟨b,0,none⟩:Addr).add 1=⟨b,1,none⟩:=by simp [Addr.add]
 have ha2:(⟨b,0,none⟩:Addr).add 2=⟨b,2,none⟩:=by simp [Addr.add]
 simp [storeVar,sizeOf,typeInfo,hi,hz1,Value.cells,storeCells,store,ha0,ha1,ha2];simp [Sem.run,h.c0,h.f0,g2,gf,g3,gf3]
theorem Tri.set {b:Nat} (h:Tri w b u1 u2 u3) (x y z:Value):Tri (((w.setCell ⟨b,0,none⟩ x).setCell ⟨b,1,none⟩ y).setCell ⟨b,2,none⟩ z) b x y z:=by
 have s1:(w.setCell ⟨b,0,none⟩ x).cell? ⟨b,0,none⟩=some x:=World.cell?_setCell_same (h:=h.c0) ..
 have s2:(w.setCell ⟨b,0,none⟩ x).cell? ⟨b,1,none⟩=some u2:=by
  rw [World.cell?_setCell_other (h:=by intro e; injection e with e1 e2; omega) ..]; exact h.c1
 have s3:((w.setCell ⟨b,0,none⟩ x).setCell ⟨b,1,none⟩ y).cell? ⟨b,2,none⟩=some u3:=by
  rw [World.cell?_setCell_other (h:=by intro e; injection e with e1 e2; omega) ..,World.cell?_setCell_other (h:=by intro e; injection e with e1 e2; omega) ..]; exact h.c2
 refine ⟨?_,?_,World.cell?_setCell_same (h:=s3) ..,?_,?_,?_,by simpa using h.lt⟩
 ·rw [World.cell?_setCell_other (h:=by intro e; injection e with e1 e2; omega) ..,World.cell?_setCell_other (h:=by intro e; injection e with e1 e2; omega) ..]; exact s1
 ·rw [World.cell?_setCell_other (h:=by intro e; injection e with e1 e2; omega) ..]; exact World.cell?_setCell_same (h:=s2) ..
 ·rw [World.frozen?_setCell,World.frozen?_setCell,World.frozen?_setCell]; exact h.f0
 ·rw [World.frozen?_setCell,World.frozen?_setCell,World.frozen?_setCell]; exact h.f1
 ·rw [World.frozen?_setCell,World.frozen?_setCell,World.frozen?_setCell]; exact h.f2
theorem Tri.set12 {b:Nat} (h:Tri w b u1 u2 u3) (y z:Value):Tri ((w.setCell ⟨b,1,none⟩ y).setCell ⟨b,2,none⟩ z) b u1 y z:=by
 have s3:(w.setCell ⟨b,1,none⟩ y).cell? ⟨b,2,none⟩=some u3:=by
  rw [World.cell?_setCell_other (h:=by intro e; injection e with e1 e2; omega) ..]; exact h.c2
 refine ⟨?_,?_,World.cell?_setCell_same (h:=s3) ..,?_,?_,?_,by simpa using h.lt⟩
 ·rw [World.cell?_setCell_other (h:=by intro e; injection e with e1 e2; omega) ..,World.cell?_setCell_other (h:=by intro e; injection e with e1 e2; omega) ..]; exact h.c0
 ·rw [World.cell?_setCell_other (h:=by intro e; injection e with e1 e2; omega) ..]; exact World.cell?_setCell_same (h:=h.c1) ..
 ·rw [World.frozen?_setCell,World.frozen?_setCell]; exact h.f0
 ·rw [World.frozen?_setCell,World.frozen?_setCell]; exact h.f1
 ·rw [World.frozen?_setCell,World.frozen?_setCell]; exact h.f2
theorem run_loadC {b:Nat} {x y:Value} (h:Tri w b x y z):(loadVar 87 ⟨b,0,none⟩).run Tryz.prog w=.ok (.agg #[x,y,z]) w:=by
 obtain ⟨i0,hi,hz0,hz1,hz2⟩:=info_parts infoChain
 have ha0:(⟨b,0,none⟩:Addr).add 0=⟨b,0,none⟩:=by simp [Addr.add]
 have ha1:(⟨b,0,none⟩:Addr).add 1=⟨b,1,none⟩:=by simp [Addr.add]
 have ha2:(⟨b,0,none⟩:Addr).add 2=⟨b,2,none⟩:=by simp [Addr.add]
 have hg:(isAgg 87).run Tryz.prog w=.ok true w:=by kernel_rfl
 simp [loadVar,hg,sizeOf,typeInfo,hi,hz1,loadCells,loadCellsFrom,load,ha0,ha1,ha2];simp [Sem.run,h.c0,h.c1,h.c2]
theorem results_cellC {fn:Func} {p:Go.Tmp} (h:fn.results=#[.cell p 87]) (tmps:Array Value) {b:Nat} {x y:Value} (hp:tmps.getD p undef=.pointer (some ⟨b,0,none⟩)) (h1:Tri w b x y z) :
  (results fn tmps).run Tryz.prog w=.ok (.agg #[x,y,z]) w:=by
 have hp':tmps[p]?.getD undef=.pointer (some ⟨b,0,none⟩):=by simpa using hp
 simp [results,h,hp',asAddr,run_loadC h1]
theorem results_cellC2 {fn:Func} {p u:Go.Tmp} (h:fn.results=#[.cell p 87,.tmp u]) (tmps:Array Value) {b:Nat} {x y:Value} (hp:tmps.getD p undef=.pointer (some ⟨b,0,none⟩)) (hu:tmps.getD u undef=v) (h1:Tri w b x y z) :
  (results fn tmps).run Tryz.prog w=.ok (.tuple #[.agg #[x,y,z],v]) w:=by
 rw [results_cell_tmp h,hp,hu];simp [asAddr,run_loadC h1,Result.andThen]
theorem exec_allocC {o:Oper} {a:Act} (ho:o.op=.alloc 87):(execOp a.eval o).run Tryz.prog w=.ok (.value (.pointer (some ⟨w.heap.size,0,none⟩))) (w.alloc (.cells #[.int .i64 0,.slice none 0 0,.slice none 0 0] 87)):=by
 obtain ⟨i0,hi,hz0,hz1,hz2⟩:=info_parts infoChain;unfold execOp;simp [ho,Instr.alloc,typeInfo,zeroValue,hi,hz0,newVar,Value.cells,Result.andThen];rfl
theorem exec_buildC1 {o:Oper} {a:Act} (x:Operand) (ho:o.op=.build 87 #[(0,x)]) (hx:a.eval x=.int .i64 d) :
  (execOp a.eval o).run Tryz.prog w=.ok (.value (.agg #[.int .i64 d,.slice none 0 0,.slice none 0 0])) w:=by
 unfold execOp;simp only [ho,Sem.run_bind,Sem.run_pure];simp only [List.map_toArray,List.map_cons,List.map_nil,hx]
 have h:(Instr.build 87 #[(0,.int .i64 d)]).run Tryz.prog w=.ok (.agg #[.int .i64 d,.slice none 0 0,.slice none 0 0]) w:=by kernel_rfl
 first | (rw [h]; rfl) | (erw [h]; rfl)
theorem exec_buildC0 {o:Oper} {a:Act} (ho:o.op=.build 87 #[]) :
  (execOp a.eval o).run Tryz.prog w=.ok (.value (.agg #[.int .i64 0,.slice none 0 0,.slice none 0 0])) w:=by
 unfold execOp;simp only [ho,Sem.run_bind,Sem.run_pure]
 have h:(Instr.build 87 #[]).run Tryz.prog w=.ok (.agg #[.int .i64 0,.slice none 0 0,.slice none 0 0]) w:=by kernel_rfl
 first | (simp [h,Result.andThen]) | (rw [h]; rfl) | (erw [h]; rfl)
theorem chF0 (b:Nat) (w:World):(Instr.fieldAt 87 (.pointer (some ⟨b,0,none⟩)) 0).run Tryz.prog w=.ok (.pointer (some ⟨b,0,none⟩)) w:=by kernel_rfl
theorem chF1 (b:Nat) (w:World):(Instr.fieldAt 87 (.pointer (some ⟨b,0,none⟩)) 1).run Tryz.prog w=.ok (.pointer (some ⟨b,1,none⟩)) w:=by kernel_rfl
theorem chF2 (b:Nat) (w:World):(Instr.fieldAt 87 (.pointer (some ⟨b,0,none⟩)) 2).run Tryz.prog w=.ok (.pointer (some ⟨b,2,none⟩)) w:=by kernel_rfl
theorem infoIntss:(Tryz.prog.info? 84).map (fun i=>(i.zero,i.size,i.bytes))=some (some (.slice none 0 0),1,24):=by kernel_rfl
theorem infoPermss:(Tryz.prog.info? 85).map (fun i=>(i.zero,i.size,i.bytes))=some (some (.slice none 0 0),1,24):=by kernel_rfl
theorem slPermss:Rg.SlT Tryz.prog 85 22 (.slice none 0 0) 24:=⟨Tryz.underlying85,infoPermsV,rfl,by decide⟩
theorem run_build1PP (X:World) (u:Value) (hs:∃ a n c,u=.slice a n c):(Instr.buildSlice 85 1 #[(0,u)]).run Tryz.prog X=.ok (.slice (some ⟨X.heap.size,0,none⟩) 1 1) (X.alloc (.cells #[u] 22)):=by
 obtain ⟨i0,hi,hz0,hz1,hz2⟩:=info_parts infoPermsV;obtain ⟨a,n,c,rfl⟩:=hs;refine run_buildSlice X 85 22 1 _ _ i0 _ Tryz.underlying85 hi hz0 (by rw [hz1]; decide) (by rw [hz1]; decide) ?_;generalize (fun x=>((Value.slice none 0 0).cells)[x % (Value.slice none 0 0).cells.size]!)=f;rw [hz1];have h1:Array.range (1*1)=#[0]:=rfl;simp [Instr.fill,Value.cells,h1]
end Go.Proofs.YtdnmmibchbceeaaGreat

namespace Go.Proofs.YtdnmmibchbceeaaGreat
open Go.RowKit
open Go.Proofs
theorem FRows.kp {F M:Nat→Prop} {w w':World} {v:Value} {ll:List (List Int)} (h:Rg.FRows F w v ll) (hk:Rg.Kp M w w') (hF:∀ k,F k→¬ M k):Rg.FRows F w' v ll:=by
 obtain ⟨us,h1,h2⟩:=h;exact ⟨us,h1.kp hk hF,h2.kp hk hF⟩
theorem FRows.mono {F F':Nat→Prop} {w:World} {v:Value} {ll:List (List Int)} (h:Rg.FRows F w v ll) (hF:∀ k,F k→F' k):Rg.FRows F' w v ll:=by
 obtain ⟨us,h1,h2⟩:=h;exact ⟨us,h1.mono hF,h2.mono hF⟩
theorem FRows.rows {ll:List (List Int)} (h:Rg.FRows F w v ll):Rg.Rows w v ll:=by
 obtain ⟨us,h1,h2⟩:=h;exact ⟨us,h1.vals,h2.1,fun i a b=>(h2.2 i a b).ints⟩
theorem FElts2.kp {F M:Nat→Prop} {w w':World} {us:List Value} {ll:List (List (List Int))} (h:Rg.FElts2 F w us ll) (hk:Rg.Kp M w w') (hF:∀ k,F k→¬ M k):Rg.FElts2 F w' us ll:=⟨h.1,fun i a b=>FRows.kp (h.2 i a b) hk hF⟩
theorem FElts2.mono {F F':Nat→Prop} {w:World} {us:List Value} {ll:List (List (List Int))} (h:Rg.FElts2 F w us ll) (hF:∀ k,F k→F' k):Rg.FElts2 F' w us ll:=⟨h.1,fun i a b=>FRows.mono (h.2 i a b) hF⟩
theorem FElts.snoc {us:List Value} {ll:List (List Int)} (h:Rg.FElts F w us ll) (hu:Rg.FI F w u l):Rg.FElts F w (us++[u]) (ll++[l]):=by
 refine ⟨by simp [h.1],fun i a b=>?_⟩
 by_cases e:i<us.length
 ·have e2:i<ll.length:=by rw [← h.1]; exact e
  rw [List.getElem_append_left e,List.getElem_append_left e2];exact h.2 i e e2
 ·have e1:i=us.length:=by simp at a; omega
  subst e1;have hl:=h.1;simp [hl];exact hu
theorem FElts2.snoc {us:List Value} {ll:List (List (List Int))} {l:List (List Int)} (h:Rg.FElts2 F w us ll) (hu:Rg.FRows F w u l):Rg.FElts2 F w (us++[u]) (ll++[l]):=by
 refine ⟨by simp [h.1],fun i a b=>?_⟩
 by_cases e:i<us.length
 ·have e2:i<ll.length:=by rw [← h.1]; exact e
  rw [List.getElem_append_left e,List.getElem_append_left e2];exact h.2 i e e2
 ·have e1:i=us.length:=by simp at a; omega
  subst e1;have hl:=h.1;simp [hl];exact hu
def GS2 (B:Nat) (W:World) (tc:Nat) (ov rv:Value) (k:Nat):Prop:=B≤k∧k<W.heap.size∧ov.ownBlock≠some k∧rv.ownBlock≠some k∧k≠tc
structure ChR (B:Nat) (W:World) (tc:Nat) (c0 c1 c2 ov rv:Value) (O:List (List Int)) (R:List (List (List Int))):Prop where
 tri:Tri W tc c0 c1 c2
 low:B≤tc
 own:∃ us vs,W.ownsRow B 25 1 ov O.length us∧W.ownsRow B 22 1 rv R.length vs∧Rg.FElts (GS2 B W tc ov rv) W us O∧Rg.FElts2 (GS2 B W tc ov rv) W vs R
 apart:∀ k,ov.ownBlock=some k→rv.ownBlock≠some k
 ot:ov.ownBlock≠some tc
 rt:rv.ownBlock≠some tc
theorem GS2.up (h:GS2 B W tc ov rv k) (hs:W.heap.size≤W'.heap.size):GS2 B W' tc ov rv k:=⟨h.1,Nat.lt_of_lt_of_le h.2.1 hs,h.2.2⟩
theorem ChR.below {B:Nat} {W W':World} {tc:Nat} {c0 c1 c2 ov rv:Value} {O:List (List Int)} {R:List (List (List Int))} (h:ChR B W tc c0 c1 c2 ov rv O R) (hb:Below W.heap.size W W'):ChR B W' tc c0 c1 c2 ov rv O R:=by
 obtain ⟨us,vs,h1,h2,h3,h4⟩:=h.own;have hk:Rg.Kp (fun _=>False) W W':=Rg.Kp.of_below hb;exact ⟨h.tri.below hb,h.low,⟨us,vs,Rg.row_below h1 hb,Rg.row_below h2 hb,(h3.kp hk (fun _ _=>id)).mono (fun k hk=>hk.up hb.size),FElts2.mono (FElts2.kp h4 hk (fun _ _=>id)) (fun k hk=>hk.up hb.size)⟩,h.apart,h.ot,h.rt⟩
theorem ChR.start {c0 c1 c2:Value} (ht:Tri W tc c0 c1 c2) (hl:B≤tc):ChR B W tc c0 c1 c2 (.slice none 0 0) (.slice none 0 0) [] [] :=
 ⟨ht,hl,⟨[],[],World.ownsRow_nil _ _ _ _,World.ownsRow_nil _ _ _ _,Rg.FElts.nil _ _,⟨rfl,fun i h=>by simp at h⟩⟩,fun k h=>by simp [Value.ownBlock] at h,by simp [Value.ownBlock],by simp [Value.ownBlock]⟩
theorem ChR.lts {c0 c1 c2:Value} {O:List (List Int)} {R:List (List (List Int))} (h:ChR B W tc c0 c1 c2 ov rv O R):(∀ k,ov.ownBlock=some k→B≤k∧k<W.heap.size)∧(∀ k,rv.ownBlock=some k→B≤k∧k<W.heap.size):=by
 obtain ⟨us,vs,h1,h2,_⟩:=h.own;exact ⟨fun k e=>h1.lt k e,fun k e=>h2.lt k e⟩
theorem ChR.pushO {c0 c1 c2:Value} {O:List (List Int)} {R:List (List (List Int))} (h:ChR B W tc c0 c1 c2 ov rv O R) (hB:B≤W.heap.size) {x:Value} (hx:Rg.FI (GS2 B W tc ov rv) W x l) (hs:x.oneCell'=true) (hO:O.length<1000000) {p:Nat} (hp:W.cell? ⟨p,0,none⟩=some x) (ty:TypeId) :
  ∃ a c X,(Builtin.append_ #[84,84] ty #[ov,.slice (some ⟨p,0,none⟩) 1 1]).run Tryz.prog W=.ok (.slice a (O.length+1) c) X∧ChR B X tc c0 c1 c2 (.slice a (O.length+1) c) rv (O++[l]) R∧W.grownBy X ov.ownBlock ∧
   (∀ k,GS2 B W tc ov rv k→GS2 B X tc (.slice a (O.length+1) c) rv k):=by
 obtain ⟨us,vs,h1,h2,h3,h4⟩:=h.own;obtain ⟨v',X,r1,r2,r3,r4,a,c,rfl⟩:=app_run (P:=Tryz.prog) slIntss ty h1 hB p 1 hp hs hO;have hk:Rg.Kp (fun k=>ov.ownBlock=some k) W X:=Rg.Kp.of_grown r3 fun _ e=>e
 have hm:∀ k,GS2 B W tc ov rv k→GS2 B X tc (.slice a (O.length+1) c) rv k:=fun k g=>by
  refine ⟨g.1,Nat.lt_of_lt_of_le g.2.1 hk.size,fun e=>?_,g.2.2.2⟩
  rcases r4 with r4 | r4
  ·rw [r4] at e; exact g.2.2.1 e
  ·rw [r4] at e; injection e with e; have:=g.2.1; omega
 have hg:∀ k,GS2 B W tc ov rv k→¬ ov.ownBlock=some k:=fun k g=>g.2.2.1;refine ⟨a,c,X,r1,⟨h.tri.kp hk h.ot,h.low,⟨us++[x],vs,by rw [List.length_append]; exact r2,rowKp h2 hk (fun k e e2=>h.apart k e e2),(FElts.snoc (h3.kp hk hg) (hx.kp hk hg)).mono hm,FElts2.mono (FElts2.kp h4 hk hg) hm⟩,fun k e e2=>?_,fun e=>?_,h.rt⟩,r3,hm⟩
 ·rcases r4 with r4 | r4
  ·rw [r4] at e; exact h.apart k e e2
  ·rw [r4] at e; injection e with e; have:=(h.lts.2 k e2).2; omega
 ·rcases r4 with r4 | r4
  ·rw [r4] at e; exact h.ot e
  ·rw [r4] at e; injection e with e; have:=h.tri.lt; omega
theorem ChR.pushR {c0 c1 c2:Value} {O:List (List Int)} {R:List (List (List Int))} (h:ChR B W tc c0 c1 c2 ov rv O R) (hB:B≤W.heap.size) {x:Value} {l:List (List Int)} (hx:Rg.FRows (GS2 B W tc ov rv) W x l) (hs:x.oneCell'=true) (hR:R.length<1000000) {p:Nat} (hp:W.cell? ⟨p,0,none⟩=some x) (ty:TypeId) :
  ∃ a c X,(Builtin.append_ #[85,85] ty #[rv,.slice (some ⟨p,0,none⟩) 1 1]).run Tryz.prog W=.ok (.slice a (R.length+1) c) X∧ChR B X tc c0 c1 c2 ov (.slice a (R.length+1) c) O (R++[l])∧W.grownBy X rv.ownBlock:=by
 obtain ⟨us,vs,h1,h2,h3,h4⟩:=h.own;obtain ⟨v',X,r1,r2,r3,r4,a,c,rfl⟩:=app_run (P:=Tryz.prog) slPermss ty h2 hB p 1 hp hs hR;have hk:Rg.Kp (fun k=>rv.ownBlock=some k) W X:=Rg.Kp.of_grown r3 fun _ e=>e
 have hm:∀ k,GS2 B W tc ov rv k→GS2 B X tc ov (.slice a (R.length+1) c) k:=fun k g=>by
  refine ⟨g.1,Nat.lt_of_lt_of_le g.2.1 hk.size,g.2.2.1,fun e=>?_,g.2.2.2.2⟩
  rcases r4 with r4 | r4
  ·rw [r4] at e; exact g.2.2.2.1 e
  ·rw [r4] at e; injection e with e; have:=g.2.1; omega
 have hg:∀ k,GS2 B W tc ov rv k→¬ rv.ownBlock=some k:=fun k g=>g.2.2.2.1;refine ⟨a,c,X,r1,⟨h.tri.kp hk h.rt,h.low,⟨us,vs++[x],rowKp h1 hk (fun k e e2=>h.apart k e2 e),by rw [List.length_append]; exact r2,(h3.kp hk hg).mono hm,FElts2.mono (FElts2.snoc (FElts2.kp h4 hk hg) (FRows.kp hx hk hg)) hm⟩,fun k e e2=>?_,h.ot,fun e=>?_⟩,r3⟩
 ·rcases r4 with r4 | r4
  ·rw [r4] at e2; exact h.apart k e e2
  ·rw [r4] at e2; injection e2 with e2; have:=(h.lts.1 k e).2; omega
 ·rcases r4 with r4 | r4
  ·rw [r4] at e; exact h.rt e
  ·rw [r4] at e; injection e with e; have:=h.tri.lt; omega
theorem ChR.store {c0 c1 c2:Value} {O:List (List Int)} {R:List (List (List Int))} (h:ChR B W tc c0 c1 c2 ov rv O R) (y z:Value) :
  ChR B ((W.setCell ⟨tc,1,none⟩ y).setCell ⟨tc,2,none⟩ z) tc c0 y z ov rv O R:=by
 obtain ⟨us,vs,h1,h2,h3,h4⟩:=h.own;have hk:Rg.Kp (fun k=>k=tc) W ((W.setCell ⟨tc,1,none⟩ y).setCell ⟨tc,2,none⟩ z):=Rg.Kp.trans (Rg.Kp.of_setCell (M:=fun k=>k=tc) rfl) (Rg.Kp.of_setCell (M:=fun k=>k=tc) rfl) (fun _ _ e=>e);have hg:∀ k,GS2 B W tc ov rv k→¬ k=tc:=fun k g=>g.2.2.2.2;have hm:∀ k,GS2 B W tc ov rv k→GS2 B ((W.setCell ⟨tc,1,none⟩ y).setCell ⟨tc,2,none⟩ z) tc ov rv k:=fun k g=>g.up hk.size;exact ⟨h.tri.set12 y z,h.low,⟨us,vs,rowKp h1 hk (fun k e e2=>h.ot (e▸e2)),rowKp h2 hk (fun k e e2=>h.rt (e▸e2)),(h3.kp hk hg).mono hm,FElts2.mono (FElts2.kp h4 hk hg) hm⟩,h.apart,h.ot,h.rt⟩
def Rows2 (w:World) (v:Value) (lll:List (List (List Int))):Prop:=∃ us,Rg.Vals w v us∧us.length=lll.length∧∀ i (h:i<us.length) (h2:i<lll.length),Rg.Rows w us[i] lll[i]
theorem Rows2.below {w w':World} {v:Value} {lll:List (List (List Int))} (h:Rows2 w v lll) (hb:Below w.heap.size w w'):Rows2 w' v lll:=by
 obtain ⟨us,h1,h2,h3⟩:=h;exact ⟨us,Rg.ValsB.below h1 hb,h2,fun i a b=>(h3 i a b).below hb⟩
end Go.Proofs.YtdnmmibchbceeaaGreat

namespace Go.Proofs.YtdnmmibchbceeaaGreat
open Go.RowKit
open Go.Proofs
attribute [local irreducible] Go.Calls
theorem Vxcl0 (args:Array Value) (w:World):(callFunc 157 args).run Tryz.prog w=.ok (.enter 157 args) w:=by kernel_rfl
theorem Vxcl1 (args:Array Value) (w:World):(callFunc 143 args).run Tryz.prog w=.ok (.enter 143 args) w:=by kernel_rfl
theorem Vxcl2 (args:Array Value) (w:World):(callFunc 144 args).run Tryz.prog w=.ok (.enter 144 args) w:=by kernel_rfl
theorem Clone_any (v:Value) (l:List Int) (w:World) (h:Rg.Ints w v l) (h1:1≤l.length) (hl:l.length≤1000000) :
  Calls Tryz.prog 124 #[v] w fun e w'=>∃ v',e=.returned v'∧w'.ownsRow w.heap.size 3 1 v' l.length (l.map (Value.int .i64))∧Below w.heap.size w w':=by
 obtain ⟨la,lc,rfl,_,_,_,hs⟩:=h.shape;obtain ⟨b,o,rfl,_⟩:=hs (by omega);have HI:=ι h;have K:=ι (Below.refl w.heap.size w);clear h hs
 go_enter Tryz.func124,Tryz.ntmps124
 go_upto_region 1 with (fail);refine Rg.wl ?_;refine Rg.lm 3 (.slice (some ⟨b,o,none⟩) l.length lc) ?_;go_frame;refine Rg.lr 4 (exec_nilF _ _ rfl rfl rfl) ?_;go_frame;go_upto_region 3 with (fail);refine Rg.wl ?_;have hnew:=Own0.new (B:=w.heap.size) w (Nat.le_refl _);refine Rg.lr 5 (Rg.exec_build0 slPerm rfl w) ?_;go_frame;have hb:=(Below.refl w.heap.size w).alloc (Nat.le_refl _) (.cells #[] 3);generalize w.alloc (.cells #[] 3)=w1 at *;replace HI:=ι (HI.out.below hb);replace K:=ι (Rg.acc K.out hb);clear hb;have FO:=ι hnew;refine Rg.lm 6 (.slice (some ⟨b,o,none⟩) l.length lc) ?_;go_frame;obtain ⟨v5,X5,r1,r2,r3⟩:=Rg.appL_run (P:=Tryz.prog) slPerm 30 FO.out.1 K.out.size HI.out ints_cells (by rw [List.length_map]; omega);refine Rg.lr 7 (Rg.exec_append _ _ _ rfl rfl rfl r1) ?_;go_frame;refine Rg.la 2 (v5) ?_;go_frame;rw [List.length_map,Nat.zero_add,List.nil_append] at r2
 have R2:=ι r2;have K5:=ι (K.out.grown r3 K.out.size (fun j hj=>(FO.out.1.lt j hj).1));clear r1 r2 r3 FO;go_wp2;go_ret;exact ⟨_,rfl,R2.out,K5.out⟩
theorem Collect_any (Bs:Nat) (sv:Value) (zs:List Int) (hlen:zs.length≤1000000) (w:World) (hBs:Bs<w.heap.size) (hc0:w.cell? ⟨Bs,0,none⟩=some sv) (hI:SInts w.heap.size w sv zs) :
  Calls Tryz.prog 143 #[.func (.func 145) #[] #[.pointer (some ⟨Bs,0,none⟩)]] w fun e w'=>∃ v,e=.returned v∧w'.ownsRow w.heap.size 3 1 v zs.length (zs.map (Value.int .i64))∧Below w.heap.size w w':=by
 have hcon:=callsIn_wide.1 (appendSeq_in Fence.wide 3 trivial trivial rfl (by omega) Bs sv zs hlen w hBs hc0 hI);clear hBs hc0 hI
 go_enter Tryz.func143,Tryz.ntmps143
 go_upto_region 1 with (fail);refine Rg.wl ?_;refine Rg.lm 3 (.func (.func 145) #[] #[.pointer (some ⟨Bs,0,none⟩)]) ?_;go_frame;refine Rg.lk 4 (exec_fn 157 _ _ _ rfl rfl rfl (Vxcl0 _ _)) ?_;refine (hcon).mono ?_;rintro e1 w1 ⟨v,rfl,hrow,hb⟩;have R:=ι hrow;have KB:=ι hb;refine ⟨_,rfl,?_⟩;go_frame;clear hb;refine Rg.la 2 (v) ?_;go_frame;clear hcon hrow;go_wp2;go_ret;exact ⟨_,rfl,R.out,KB.out⟩
theorem Sorted_any (Bs:Nat) (sv:Value) (zs:List Int) (h1:1≤zs.length) (hlen:zs.length≤1000000) (w:World) (hBs:Bs<w.heap.size) (hc0:w.cell? ⟨Bs,0,none⟩=some sv) (hI:SInts w.heap.size w sv zs) :
  Calls Tryz.prog 122 #[.func (.func 145) #[] #[.pointer (some ⟨Bs,0,none⟩)]] w fun e w'=>∃ v,e=.returned v∧w'.ownsRow w.heap.size 3 1 v zs.length ((Ob.asc zs).map (Value.int .i64))∧Below w.heap.size w w':=by
 have hcon:=Collect_any Bs sv zs hlen w hBs hc0 hI;clear hBs hc0 hI
 go_enter Tryz.func122,Tryz.ntmps122
 go_upto_region 1 with (fail);refine Rg.wl ?_;refine Rg.lm 4 (.func (.func 145) #[] #[.pointer (some ⟨Bs,0,none⟩)]) ?_;go_frame;refine Rg.lk 5 (exec_fn1 143 _ _ rfl rfl (Vxcl1 _ _)) ?_;refine (hcon).mono ?_;rintro e1 w1 ⟨v,rfl,hrow,hb⟩;have R:=ι hrow;have KB:=ι hb;refine ⟨_,rfl,?_⟩;go_frame;clear hb;refine Rg.la 3 (v) ?_;go_frame;clear hcon hrow;go_upto_region 2 with (fail);refine Rg.wl ?_;refine Rg.lm 6 (v) ?_;go_frame;refine Rg.lk 7 (exec_fn1 144 _ _ rfl rfl (Vxcl2 _ _)) ?_;refine (sort_own w.heap.size zs.length v zs w1 R.out h1 (by omega)).mono ?_;rintro e1 w2 ⟨⟨r,rfl⟩,hrow2,hgr⟩;have R2:=ι hrow2;have K2:=ι (KB.out.grown hgr KB.out.size (fun j hj=>(R.out.lt j hj).1));refine ⟨_,rfl,?_⟩;go_frame;clear hgr;clear hrow2;go_wp2;go_ret;exact ⟨_,rfl,R2.out,K2.out⟩
end Go.Proofs.YtdnmmibchbceeaaGreat

namespace Go.Proofs.Cm
open Go.Proofs
structure PC (n:Nat) (H:List Nat→Prop) (tr:Tr) (k:Nat) (O:List (List Nat)) (R:List (List (List Nat))):Prop where
 lenO:O.length=k
 lenR:R.length=k
 asc:∀ i,i<k→(O.getD i []).Pairwise (· < ·)
 orb:∀ i p,i<k→(p∈O.getD i []↔∃ u,tr i p=some u)
 len:∀ i,i<k→(R.getD i []).length=(O.getD i []).length
 rep:∀ i j,i<k→j<(O.getD i []).length→Lst n (fun z=>St H i z∧ap z i=(O.getD i []).getD j 0) ((R.getD i []).getD j [])
theorem PC.nil (n:Nat) (H:List Nat→Prop) (tr:Tr):PC n H tr 0 [] []:=⟨rfl,rfl,fun _ h=>absurd h (Nat.not_lt_zero _),fun _ _ h=>absurd h (Nat.not_lt_zero _),fun _ h=>absurd h (Nat.not_lt_zero _),fun _ _ h=>absurd h (Nat.not_lt_zero _)⟩
theorem PC.snoc {tr:Tr} (h:PC n H tr k O R) {o:List Nat} {r:List (List Nat)} (h1:o.Pairwise (· < ·)) (h2:∀ p,p∈o↔∃ u,tr k p=some u) (h3:r.length=o.length)
  (h4:∀ j,j<o.length→Lst n (fun z=>St H k z∧ap z k=o.getD j 0) (r.getD j [])):PC n H tr (k+1) (O++[o]) (R++[r]):=by
 have eO:∀ i,i<k→(O++[o]).getD i []=O.getD i []:=fun i hi=>by
  rw [List.getD_eq_getElem?_getD,List.getD_eq_getElem?_getD,List.getElem?_append_left (by rw [h.lenO]; exact hi)]
 have eR:∀ i,i<k→(R++[r]).getD i []=R.getD i []:=fun i hi=>by
  rw [List.getD_eq_getElem?_getD,List.getD_eq_getElem?_getD,List.getElem?_append_left (by rw [h.lenR]; exact hi)]
 have eO2:(O++[o]).getD k []=o:=by
  rw [List.getD_eq_getElem?_getD,List.getElem?_append_right (by rw [h.lenO]; exact Nat.le_refl _),h.lenO]; simp
 have eR2:(R++[r]).getD k []=r:=by
  rw [List.getD_eq_getElem?_getD,List.getElem?_append_right (by rw [h.lenR]; exact Nat.le_refl _),h.lenR]; simp
 refine ⟨by simp [h.lenO],by simp [h.lenR],fun i hi=>?_,fun i p hi=>?_,fun i hi=>?_,fun i j hi hj=>?_⟩
 ·by_cases e:i=k
  ·subst e; rw [eO2]; exact h1
  ·rw [eO i (by omega)]; exact h.asc i (by omega)
 ·by_cases e:i=k
  ·subst e; rw [eO2]; exact h2 p
  ·rw [eO i (by omega)]; exact h.orb i p (by omega)
 ·by_cases e:i=k
  ·subst e; rw [eO2,eR2]; exact h3
  ·rw [eO i (by omega),eR i (by omega)]; exact h.len i (by omega)
 ·by_cases e:i=k
  ·subst e; rw [eO2] at hj ⊢; rw [eR2]; exact h4 j hj
  ·rw [eO i (by omega)] at hj ⊢; rw [eR i (by omega)]; exact h.rep i j (by omega) hj
theorem PC.isChain {tr:Tr} (h:PC n H tr n O R) (ht:IsTr n H tr):IsChain n H O R :=
 ⟨h.lenO,h.lenR,h.asc,fun i p hi=>by
  rw [h.orb i p hi]
  constructor
  ·rintro ⟨u,hu⟩
   exact ⟨u,⟨ht.mem i p u hi hu,ht.rp.fx i p u (Nat.zero_le _) hi hu⟩,ht.rp.at_ i p u (Nat.zero_le _) hi hu⟩
  ·rintro ⟨x,hx,rfl⟩
   exact ht.all i x hi hx,h.len,h.rep⟩
theorem sort_nat (xs:List Nat) (nd:xs.Nodup):∃ l:List Nat,((xs.map (fun x:Nat=>(x:Int))).mergeSort (fun a b=>decide (a≤b)))=l.map (fun x:Nat=>(x:Int))∧l.Pairwise (· < ·)∧(∀ p,p∈l↔p∈xs)∧l.length=xs.length:=by
 have hp:=List.mergeSort_perm (xs.map (fun x:Nat=>(x:Int))) (fun a b=>decide (a≤b));have hs:=List.pairwise_mergeSort (le:=fun a b:Int=>decide (a≤b)) (fun a b c h1 h2=>by simp at *; omega) (fun a b=>by simp; omega) (xs.map (fun x:Nat=>(x:Int)));generalize (xs.map (fun x:Nat=>(x:Int))).mergeSort (fun a b=>decide (a≤b))=m at *
 have hm:∀ z∈m,0≤z:=fun z hz=>by
  have:=hp.mem_iff.1 hz;simp at this;obtain ⟨a,_,rfl⟩:=this;omega
 have e:(m.map Int.toNat).map (fun x:Nat=>(x:Int))=m:=by
  rw [List.map_map]
  conv=>rhs; rw [← List.map_id m]
  refine List.map_congr_left fun z hz=>?_;have:=hm z hz;simp; omega
 have hnd:m.Nodup:=hp.nodup_iff.2 (List.pairwise_map.2 (nd.imp fun h e=>h (by omega)));refine ⟨m.map Int.toNat,e.symm,?_,fun p=>?_,?_⟩
 ·rw [List.pairwise_map]
  have h2:m.Pairwise (fun a b=>a≠b):=hnd;refine (List.Pairwise.and hs h2).imp_of_mem fun {a b} ha hb hab=>?_;have h3:=hm a ha;have h4:=hm b hb
  have h5:a≤b:=by simpa using hab.1
  have h6:=hab.2;omega
 ·constructor
  ·intro hpm
   obtain ⟨z,hz,rfl⟩:=List.mem_map.1 hpm;have:=hp.mem_iff.1 hz;simp at this;obtain ⟨a,ha,rfl⟩:=this
   simpa using ha
  ·intro hpx
   refine List.mem_map.2 ⟨(p:Int),hp.mem_iff.2 (List.mem_map.2 ⟨p,hpx,rfl⟩),by simp⟩
 ·rw [List.length_map,hp.length_eq,List.length_map]
end Go.Proofs.Cm

namespace Go.Proofs.YtdnmmibchbceeaaGreat
open Go.RowKit
open Go.Proofs
open Go.Proofs.Cm (Lv Twr trOf)
attribute [local irreducible] Go.Calls
theorem CF.below {b o:Nat} (h:CF F w b o v) (hb:Below w.heap.size w w'):CF F w' b o v:=h.kf (KF.of_below hb)
theorem FP.below {p:List Nat} (h:FP F w v p) (hb:Below w.heap.size w w'):FP F w' v p:=h.kf (KF.of_below hb)
theorem CL.below {b o:Nat} (h:CL w b o v) (hb:Below w.heap.size w w'):CL w' b o v:=h.up hb
theorem TowAt.below {T:Twr} {V:Nat→LV} (h:TowAt F L n w T V) (hb:Below w.heap.size w w'):TowAt F L n w' T V:=by
 have hk:Rg.Kp (fun _=>False) w w':=Rg.Kp.of_below hb;exact ⟨fun k hf=>Nat.lt_of_lt_of_le (h.Flt k hf) hb.size,h.LF,rowIs_kp h.row hk id,fun i hi=>(h.lv i hi).kp hk (fun _ _=>id) (fun _ _=>id),h.dist⟩
theorem SInts.of_own {e:TypeId} {xs:List Int} (h:w.ownsRow B e 1 v n (xs.map (Value.int .i64))) (hn:n=xs.length) (h0:0<n):SInts w.heap.size w v xs:=by
 subst hn;have hh:=h;obtain ⟨h1,h2⟩:=h
 rcases h2 with ⟨_,h0'⟩ | ⟨g,cap,cur,rfl,hg,hc,h3,h4,h5,h6⟩
 ·omega
 ·refine ⟨g,0,cap,rfl,(Array.getElem?_eq_some_iff.1 hc).1,fun j hj=>?_⟩
  obtain ⟨g',c',u,e1,e2,e3,e4⟩:=row_of hh hj;simp at e1;obtain ⟨rfl,_⟩:=e1;rw [e2];simp [List.getElem?_eq_getElem hj] at e3 ⊢;exact e3.symm
theorem SInts.up {xs:List Int} (h:SInts w.heap.size w v xs) (hb:Below w.heap.size w w'):SInts w'.heap.size w' v xs:=by
 obtain ⟨b,o,c,e,h1,h2⟩:=h;exact ⟨b,o,c,e,Nat.lt_of_lt_of_le h1 hb.size,fun j hj=>(hb.cell (p:=⟨b,o+j,none⟩) h1).trans (h2 j hj)⟩
theorem values_any (a:Option Addr) (len cap:Nat) (w:World) :
  Calls Tryz.prog 123 #[.slice a len cap] w fun e w'=>∃ fb,e=.returned (.func (.func 145) #[] #[.pointer (some ⟨fb,0,none⟩)])∧CL w' fb 0 (.slice a len cap)∧Below w.heap.size w w':=by
 refine (callsIn_wide.1 (values_in Fence.wide 3 trivial rfl a len cap w)).mono ?_;rintro e w' ⟨rfl,rfl⟩;exact ⟨_,rfl,⟨by rw [Rg.cellNew]; rfl,by simp⟩,(Below.refl _ _).alloc (Nat.le_refl _) _⟩
def PG (B:Nat) (W:World) (v:Value) (k:Nat):Prop:=B≤k∧k<W.heap.size∧v.ownBlock≠some k
structure RowP (B:Nat) (W:World) (v:Value) (ll:List (List Int)):Prop where
 own:∃ us,W.ownsRow B 30 1 v ll.length us∧Rg.FElts (PG B W v) W us ll
theorem RowP.nil (B:Nat) (W:World):RowP B W (.slice none 0 0) []:=⟨[],World.ownsRow_nil _ _ _ _,Rg.FElts.nil _ _⟩
theorem RowP.below {ll:List (List Int)} (h:RowP B W v ll) (hb:Below W.heap.size W W'):RowP B W' v ll:=by
 obtain ⟨us,h1,h2⟩:=h.own;exact ⟨us,Rg.row_below h1 hb,(h2.kp (M:=fun _=>False) (Rg.Kp.of_below hb) (fun _ _=>id)).mono fun k hk=>⟨hk.1,Nat.lt_of_lt_of_le hk.2.1 hb.size,hk.2.2⟩⟩
theorem RowP.push {ll:List (List Int)} (h:RowP B W v ll) (hB:B≤W.heap.size) {B2:Nat} (hu:W.ownsRow B2 3 1 u l.length (l.map (Value.int .i64))) (hl:l.length≤1000000000) (hB2:∀ k,u.ownBlock=some k→B≤k∧v.ownBlock≠some k) (hn:ll.length<1000000) (ty:TypeId) :
  ∃ a c X,(Builtin.append_ #[22,22] ty #[v,.slice (some ⟨W.heap.size,0,none⟩) 1 1]).run Tryz.prog (W.alloc (.cells #[u] 30))=.ok (.slice a (ll.length+1) c) X∧RowP B X (.slice a (ll.length+1) c) (ll++[l])∧(∀ {B':Nat} {W0:World},B'≤B→Below B' W0 W→Below B' W0 X):=by
 obtain ⟨us,h1,h2⟩:=h.own;have hb:Below W.heap.size W (W.alloc (.cells #[u] 30)):=(Below.refl _ _).alloc (Nat.le_refl _) _;obtain ⟨ua,uc,hue⟩:=Rg.row_shape hu;have hv:Rg.FI (PG B W v) W u l:=Rg.FVals.of (Rg.Vals.of_row hu hl) (fun k e=>⟨(hB2 k e).1,(hu.lt k e).2,(hB2 k e).2⟩);have hlt:=fun k e=>(h1.lt k e).2;obtain ⟨v',X,r1,r2,r3,r4,a,c,rfl⟩:=app_run (P:=Tryz.prog) slPerms ty (Rg.row_below h1 hb) (Nat.le_trans hB hb.size) W.heap.size 1 (u:=u) (by rw [Rg.cellNew]; rfl) (by rw [hue]; rfl) hn;have hk1:Rg.Kp (fun _=>False) W (W.alloc (.cells #[u] 30)):=Rg.Kp.of_below hb
 have hsz:(W.alloc (.cells #[u] 30)).heap.size=W.heap.size+1:=by simp
 have hk:Rg.Kp (fun k=>v.ownBlock=some k) W X:=Rg.Kp.trans (M:=fun k=>v.ownBlock=some k) (hk1.weak fun _=>False.elim) (Rg.Kp.of_grown r3 fun _ e=>e) (fun _ _ e=>e);have hg:∀ k,PG B W v k→¬ v.ownBlock=some k:=fun k g=>g.2.2
 have hm:∀ k,PG B W v k→PG B X (.slice a (ll.length+1) c) k:=fun k g=>by
  refine ⟨g.1,Nat.lt_of_lt_of_le g.2.1 hk.size,fun e=>?_⟩
  rcases r4 with r4 | r4
  ·rw [r4] at e; exact g.2.2 e
  ·rw [r4] at e; injection e with e; have:=g.2.1; omega
 refine ⟨a,c,X,r1,⟨us++[u],by rw [List.length_append]; exact r2,(FElts.snoc (h2.kp hk hg) (hv.kp hk hg)).mono hm⟩,fun {B' W0} hB' hb0=>?_⟩;refine (hb0.trans ⟨hk.os,hk.tape,hk.output,hk.size,fun k hk'=>hk.block k ?_ fun e=>?_⟩)
 ·have:=hb0.size; omega
 ·have:=(h1.lt k e).1; omega
end Go.Proofs.YtdnmmibchbceeaaGreat

namespace Go.Proofs.Rg
open Go Go.RowKit
variable {P:Program} {md:Region.Mode} {ops:Array Oper} {Q:Exit→Act→World→Prop} {S:Array Bool→World→Prop}
theorem Any.c2f1q {i di dk dj dq:Nat} {vq:Value} {I R0:World→Prop} {Ri Rk Rj:Value→World→Prop} {l:Array Bool} {a:Act} (hS:∀ l W,I W→S l W)
  (ij:i≠j) (kj:k≠j) (qj:q≠j) (dij:di≠dj) (dkj:dk≠dj) (dqj:dq≠dj)
  (r0:Region.ready md ops l=[i,j]) (ri:Region.ready md ops (l.setIfInBounds i true)=[k,j]) (rj:Region.ready md ops (l.setIfInBounds j true)=[i])
  (rikq:Region.ready md ops (((l.setIfInBounds i true).setIfInBounds k true).setIfInBounds q true)=[j]) (rij:Region.ready md ops ((l.setIfInBounds i true).setIfInBounds j true)=[k])
  (hq1:∀ u x W m,S ((l.setIfInBounds i true).setIfInBounds k true) W→Any P md ops Q S m (((l.setIfInBounds i true).setIfInBounds k true).setIfInBounds q true) (((a.put (some di) u).put (some dk) x).put (some dq) vq) W→Any P md ops Q S (m+1) ((l.setIfInBounds i true).setIfInBounds k true) ((a.put (some di) u).put (some dk) x) W)
  (hq2:∀ u v x W m,S (((l.setIfInBounds i true).setIfInBounds j true).setIfInBounds k true) W→Any P md ops Q S m ((((l.setIfInBounds i true).setIfInBounds j true).setIfInBounds k true).setIfInBounds q true) ((((a.put (some di) u).put (some dj) v).put (some dk) x).put (some dq) vq) W→Any P md ops Q S (m+1) (((l.setIfInBounds i true).setIfInBounds j true).setIfInBounds k true) (((a.put (some di) u).put (some dj) v).put (some dk) x) W)
  (s0:∀ W W',Below W.heap.size W W'→R0 W→R0 W') (si:∀ u W W',Below W.heap.size W W'→Ri u W→Ri u W') (sk:∀ u W W',Below W.heap.size W W'→Rk u W→Rk u W') (sj:∀ u W W',Below W.heap.size W W'→Rj u W→Rj u W')
  (hi:∀ b,(b=a∨∃ u,b=a.put (some dj) u)→∀ W,I W→Does P ops Q i di I Ri (fun W W'=>Below W.heap.size W W') b W)
  (hj:∀ b,(b=a∨(∃ u,b=a.put (some di) u)∨∃ u v,b=((a.put (some di) u).put (some dk) v).put (some dq) vq)→∀ W,I W→Does P ops Q j dj I Rj (fun W W'=>Below W.heap.size W W') b W)
  (hk:∀ u b,(b=a.put (some di) u∨∃ v,b=(a.put (some di) u).put (some dj) v)→∀ W,I W→R0 W→Ri u W→Does P ops Q k dk I Rk (fun W W'=>∀ v,Rj v W→Rj v W') b W)
  (hI:I w) (h0:R0 w) (h:∀ W u x v,I W→Rk x W→Rj v W→Any P md ops Q S n ((((l.setIfInBounds i true).setIfInBounds k true).setIfInBounds q true).setIfInBounds j true) ((((a.put (some di) u).put (some dk) x).put (some dq) vq).put (some dj) v) W) :
  Any P md ops Q S (n+4) l a w:=by
 have ha:∀ u x v:Value,(((a.put (some di) u).put (some dj) v).put (some dk) x).put (some dq) vq=((((a.put (some di) u).put (some dk) x).put (some dq) vq).put (some dj) v):=fun u x v=>by
  rw [put_comm (a.put (some di) u) v x (Ne.symm dkj),put_comm ((a.put (some di) u).put (some dk) x) v vq (Ne.symm dqj)]
 have hl:(((l.setIfInBounds i true).setIfInBounds j true).setIfInBounds k true).setIfInBounds q true=(((l.setIfInBounds i true).setIfInBounds k true).setIfInBounds q true).setIfInBounds j true:=by
  rw [Array.setIfInBounds_comm true true (xs:=l.setIfInBounds i true) (Ne.symm kj),Array.setIfInBounds_comm true true (xs:=(l.setIfInBounds i true).setIfInBounds k true) (Ne.symm qj)]
 refine Any.two r0 ?_ ?_
 ·refine wpOp_mono ?_ (hi a (.inl rfl) w hI)
  rintro c W ⟨u,rfl,h1,h2,h3⟩;refine ⟨hS _ _ h1,Any.two ri ?_ ?_⟩
  ·refine wpOp_mono ?_ (hk u _ (.inl rfl) W h1 (s0 _ _ h3 h0) h2)
   rintro c W' ⟨x,rfl,g1,g2,g3⟩;refine ⟨hS _ _ g1,hq1 u x W' (n+1) (hS _ _ g1) (Any.one rikq ?_)⟩;refine wpOp_mono ?_ (hj _ (.inr (.inr ⟨u,x,rfl⟩)) W' g1);rintro c W'' ⟨v,rfl,e1,e2,e3⟩;exact ⟨hS _ _ e1,h _ _ _ _ e1 (sk _ _ _ e3 g2) e2⟩
  ·refine wpOp_mono ?_ (hj _ (.inr (.inl ⟨u,rfl⟩)) W h1)
   rintro c W' ⟨v,rfl,g1,g2,g3⟩;refine ⟨hS _ _ g1,Any.one rij ?_⟩;refine wpOp_mono ?_ (hk u _ (.inr ⟨v,rfl⟩) W' g1 (s0 _ _ g3 (s0 _ _ h3 h0)) (si _ _ _ g3 h2));rintro c W'' ⟨x,rfl,e1,e2,e3⟩;refine ⟨hS _ _ e1,hq2 u v x W'' n (hS _ _ e1) ?_⟩;rw [ha,hl];exact h W'' u x v e1 e2 (e3 _ g2)
 ·refine wpOp_mono ?_ (hj a (.inl rfl) w hI)
  rintro c W ⟨v,rfl,h1,h2,h3⟩;refine ⟨hS _ _ h1,Any.one rj ?_⟩;refine wpOp_mono ?_ (hi _ (.inr ⟨v,rfl⟩) W h1);rintro c W' ⟨u,rfl,g1,g2,g3⟩;refine ⟨hS _ _ g1,Any.one (by rw [Array.setIfInBounds_comm _ _ (Ne.symm ij)]; exact rij) ?_⟩;rw [put_comm a v u (Ne.symm dij),Array.setIfInBounds_comm _ _ (Ne.symm ij)];refine wpOp_mono ?_ (hk u _ (.inr ⟨v,rfl⟩) W' g1 (s0 _ _ g3 (s0 _ _ h3 h0)) g2);rintro c W'' ⟨x,rfl,e1,e2,e3⟩;refine ⟨hS _ _ e1,hq2 u v x W'' n (hS _ _ e1) ?_⟩;rw [ha,hl];exact h W'' u x v e1 e2 (e3 _ (sj _ _ _ g3 h2))
end Go.Proofs.Rg

namespace Go.Proofs.YtdnmmibchbceeaaGreat
open Go.RowKit
open Go.Proofs
open Go.Proofs.Cm (Lv Twr trOf)
attribute [local irreducible] Go.Calls
theorem Vzcl0 (args:Array Value) (w:World):(callFunc 123 args).run Tryz.prog w=.ok (.enter 123 args) w:=by kernel_rfl
theorem Vzcl1 (args:Array Value) (w:World):(callFunc 122 args).run Tryz.prog w=.ok (.enter 122 args) w:=by kernel_rfl
theorem Vzcl2 (args:Array Value) (w:World):(callFunc 125 args).run Tryz.prog w=.ok (.enter 125 args) w:=by kernel_rfl
theorem Vzcl3 (args:Array Value) (w:World):(callFunc 124 args).run Tryz.prog w=.ok (.enter 124 args) w:=by kernel_rfl
structure OwI (B:Nat) (W:World) (v:Value) (l:List Int):Prop where
 own:W.ownsRow B 3 1 v l.length (l.map (Value.int .i64))
theorem OwI.below (h:OwI B W v l) (hb:Below W.heap.size W W'):OwI B W' v l:=⟨Rg.row_below h.own hb⟩
structure SZ (m:Nat) (W:World):Prop where
 le:m≤W.heap.size
theorem SZ.below (h:SZ m W) (hb:Below W.heap.size W W'):SZ m W':=⟨Nat.le_trans h.le hb.size⟩
theorem RowP.lt {B:Nat} {W:World} {v:Value} {ll:List (List Int)} (h:RowP B W v ll):∀ k,v.ownBlock=some k→B≤k∧k<W.heap.size:=fun k e=>by
 obtain ⟨us,h1,_⟩:=h.own;exact h1.lt k e
theorem RowP.shape {ll:List (List Int)} (h:RowP B W v ll):∃ a c,v=.slice a ll.length c:=by
 obtain ⟨us,h1,_⟩:=h.own;exact Rg.row_shape h1
theorem RowP.frows {ll:List (List Int)} (h:RowP B W v ll) (hl:ll.length≤1000000000) {G:Nat→Prop} (hG:∀ k,B≤k→k<W.heap.size→G k):Rg.FRows G W v ll:=by
 obtain ⟨us,h1,h2⟩:=h.own;exact ⟨us,Rg.FVals.of (Rg.Vals.of_row h1 hl) (fun k e=>hG k (h1.lt k e).1 (h1.lt k e).2),h2.mono fun k g=>hG k g.1 g.2.1⟩
theorem OwI.fi (h:OwI B W v l) (hl:l.length≤1000000000) {G:Nat→Prop} (hG:∀ k,B≤k→k<W.heap.size→G k):Rg.FI G W v l :=
 Rg.FVals.of (Rg.Vals.of_row h.own hl) (fun k e=>hG k (h.own.lt k e).1 (h.own.lt k e).2)
theorem Tri.set1 {b:Nat} (h:Tri w b u1 u2 u3) (y:Value):Tri (w.setCell ⟨b,1,none⟩ y) b u1 y u3:=by
 refine ⟨?_,World.cell?_setCell_same (h:=h.c1) ..,?_,?_,?_,?_,by simpa using h.lt⟩
 ·rw [World.cell?_setCell_other (h:=by intro e; injection e with e1 e2; omega) ..]; exact h.c0
 ·rw [World.cell?_setCell_other (h:=by intro e; injection e with e1 e2; omega) ..]; exact h.c2
 ·rw [World.frozen?_setCell]; exact h.f0
 ·rw [World.frozen?_setCell]; exact h.f1
 ·rw [World.frozen?_setCell]; exact h.f2
theorem ChR.shapeO {c0 c1 c2:Value} {O:List (List Int)} {R:List (List (List Int))} (h:ChR B W tc c0 c1 c2 ov rv O R):∃ a c,ov=.slice a O.length c:=by
 obtain ⟨us,vs,h1,_⟩:=h.own;exact Rg.row_shape h1
theorem ChR.shapeR {c0 c1 c2:Value} {O:List (List Int)} {R:List (List (List Int))} (h:ChR B W tc c0 c1 c2 ov rv O R):∃ a c,rv=.slice a R.length c:=by
 obtain ⟨us,vs,_,h1,_⟩:=h.own;exact Rg.row_shape h1
theorem ChR.kp {M:Nat→Prop} {B:Nat} {W W':World} {tc:Nat} {c0 c1 c2 ov rv:Value} {O:List (List Int)} {R:List (List (List Int))} (h:ChR B W tc c0 c1 c2 ov rv O R) (hk:Rg.Kp M W W') (hM:∀ z,M z→z<B):ChR B W' tc c0 c1 c2 ov rv O R:=by
 obtain ⟨us,vs,h1,h2,h3,h4⟩:=h.own
 have hg:∀ z,GS2 B W tc ov rv z→¬ M z:=fun z g e=>by have:=hM z e; have:=g.1; omega
 have hm:∀ z,GS2 B W tc ov rv z→GS2 B W' tc ov rv z:=fun z g=>g.up hk.size;exact ⟨h.tri.kp hk (fun e=>by have:=hM _ e; have:=h.low; omega),h.low,⟨us,vs,rowKp h1 hk (fun z e e2=>by have:=hM z e; have:=(h1.lt z e2).1; omega),rowKp h2 hk (fun z e e2=>by have:=hM z e; have:=(h2.lt z e2).1; omega),(h3.kp hk hg).mono hm,FElts2.mono (FElts2.kp h4 hk hg) hm⟩,h.apart,h.ot,h.rt⟩
def FRows2 (F:Nat→Prop) (w:World) (v:Value) (lll:List (List (List Int))):Prop:=∃ us,Rg.FVals F w v us∧Rg.FElts2 F w us lll
theorem FRows2.rows {F:Nat→Prop} {w:World} {v:Value} {lll:List (List (List Int))} (h:FRows2 F w v lll):Rows2 w v lll:=by
 obtain ⟨us,h1,h2⟩:=h;exact ⟨us,h1.vals,h2.1,fun i a b=>FRows.rows (h2.2 i a b)⟩
theorem FRows2.kp {F M:Nat→Prop} {w w':World} {v:Value} {ll:List (List (List Int))} (h:FRows2 F w v ll) (hk:Rg.Kp M w w') (hF:∀ k,F k→¬ M k):FRows2 F w' v ll:=by
 obtain ⟨us,h1,h2⟩:=h;exact ⟨us,h1.kp hk hF,FElts2.kp h2 hk hF⟩
theorem ChR.frO {c0 c1 c2:Value} {O:List (List Int)} {R:List (List (List Int))} (h:ChR B W tc c0 c1 c2 ov rv O R) (hl:O.length≤1000000000):Rg.FRows (fun z=>B≤z) W ov O:=by
 obtain ⟨us,vs,h1,h2,h3,h4⟩:=h.own;exact ⟨us,Rg.FVals.of (Rg.Vals.of_row h1 hl) (fun k e=>(h1.lt k e).1),h3.mono fun _ g=>g.1⟩
theorem ChR.frR {c0 c1 c2:Value} {O:List (List Int)} {R:List (List (List Int))} (h:ChR B W tc c0 c1 c2 ov rv O R) (hl:R.length≤1000000000):FRows2 (fun z=>B≤z) W rv R:=by
 obtain ⟨us,vs,h1,h2,h3,h4⟩:=h.own;exact ⟨vs,Rg.FVals.of (Rg.Vals.of_row h2 hl) (fun k e=>(h2.lt k e).1),FElts2.mono h4 fun _ g=>g.1⟩
structure Pend (B:Nat) (W:World) (tc:Nat) (c0 c1 c2 ov rv:Value) (O:List (List Int)) (R:List (List (List Int))) (x5:Value) (l5:List Int) (x6:Value) (l6:List (List Int)):Prop where
 ch:ChR B W tc c0 c1 c2 ov rv O R
 f5:Rg.FI (GS2 B W tc ov rv) W x5 l5
 f6:Rg.FRows (GS2 B W tc ov rv) W x6 l6
theorem frows_below {x6:Value} {l6:List (List Int)} (h:Rg.FRows (GS2 B W tc ov rv) W x6 l6) (hb:Below W.heap.size W W'):Rg.FRows (GS2 B W' tc ov rv) W' x6 l6 :=
 FRows.mono (FRows.kp (M:=fun _=>False) h (Rg.Kp.of_below hb) (fun _ _=>id)) (fun _ g=>g.up hb.size)
theorem Pend.below {B:Nat} {W W':World} {tc:Nat} {c0 c1 c2 ov rv:Value} {O:List (List Int)} {R:List (List (List Int))} {x5:Value} {l5:List Int} {x6:Value} {l6:List (List Int)} (h:Pend B W tc c0 c1 c2 ov rv O R x5 l5 x6 l6) (hb:Below W.heap.size W W'):Pend B W' tc c0 c1 c2 ov rv O R x5 l5 x6 l6 :=
 ⟨h.ch.below hb,Rg.FI.mono (Rg.FI.kp (M:=fun _=>False) h.f5 (Rg.Kp.of_below hb) (fun _ _=>id)) (fun _ g=>g.up hb.size),frows_below h.f6 hb⟩
theorem CL.c {b o:Nat} (h:CL w b o v):w.cell? ⟨b,o,none⟩=some v:=h.cell
theorem chain_any (hn1:1≤n) (hn2:n≤64) {tb:Nat} {T:Twr} {V:Nat→LV} (hT:TowAt F L n w T V) (hc0:CF F w tb 0 (.int .i64 ((n:Nat):Int))) (hc1:CF F w tb 1 (.slice (some ⟨L,0,none⟩) n n)) (hH:Cm.IsG n H) (htr:Cm.IsTr n H (trOf T)) (hl:∀ j,j<n→Cm.Lvl n T j) :
  Calls Tryz.prog 98 #[.pointer (some ⟨tb,0,none⟩)] w fun e w'=>∃ ov rv O R,e=.returned (.agg #[.int .i64 ((n:Nat):Int),ov,rv])∧Rg.FRows (fun z=>w.heap.size≤z) w' ov (O.map Ma.ofN)∧FRows2 (fun z=>w.heap.size≤z) w' rv (R.map (List.map Ma.ofN))∧Cm.IsChain n H O R∧Below w.heap.size w w':=by
 have K:=ι (Below.refl w.heap.size w);have HT:=ι hT;have C0:=ι hc0;have C1:=ι hc1;have HH:=ι hH;have HTR:=ι htr;have HL:=ι hl;clear hT hc0 hc1 hH htr hl
 go_enter Tryz.func98,Tryz.ntmps98
 go_upto_region 0 with (fail);refine Rg.wl ?_;have hnew:=Tri.new w (.int .i64 0) (.slice none 0 0) (.slice none 0 0);refine Rg.lr 2 (exec_allocC rfl) ?_;go_frame;have hb:=(Below.refl w.heap.size w).alloc (Nat.le_refl _) (.cells #[.int .i64 0,.slice none 0 0,.slice none 0 0] 87);generalize w.alloc (.cells #[.int .i64 0,.slice none 0 0,.slice none 0 0] 87)=w1 at *;replace HT:=ι (HT.out.below hb);replace C0:=ι (C0.out.below hb);replace C1:=ι (C1.out.below hb);replace K:=ι (Rg.acc K.out hb);clear hb;have FT:=ι hnew;have K1:=ι (Below.refl w1.heap.size w1);have hlo1:=(FT.out.lt);clear hnew;go_upto_region 1 with (fail);refine Rg.wl ?_;refine Rg.lm 9 (.pointer (some ⟨tb,0,none⟩)) ?_;go_frame;refine Rg.lr 10 (exec_nil _ rfl rfl) ?_;go_frame;refine Rg.lr 11 (exec_field _ rfl rfl (towF0 _ _)) ?_;go_frame;refine Rg.lr 12 (Rg.lo (.int .i64 ((n:Nat):Int)) ⟨tb,0,none⟩ (run_loadInt ((Below.cell (p:=⟨tb,0,none⟩) K1.out C0.out.lt).trans C0.out.cell))) ?_;go_frame
 refine Rg.lr 13 (exec_buildC1 (d:=((n:Nat):Int)) _ rfl rfl) ?_;go_frame;have hnew:=Tri.new w1 (.int .i64 0) (.slice none 0 0) (.slice none 0 0);refine Rg.lr 3 (exec_allocC rfl) ?_;go_frame;have hb:=(Below.refl w1.heap.size w1).alloc (Nat.le_refl _) (.cells #[.int .i64 0,.slice none 0 0,.slice none 0 0] 87);generalize w1.alloc (.cells #[.int .i64 0,.slice none 0 0,.slice none 0 0] 87)=w2 at *;replace K1:=ι (Rg.acc K1.out hb);clear hb;have FC:=ι hnew;refine Rg.list_skip none rfl rfl (Rg.exec_store _ _ _ rfl _ rfl _ rfl (run_storeC _ _ _ _ _ _ _ FC.out)) ?_;go_frame;clear hnew;replace FC:=ι (FC.out.set (.int .i64 ((n:Nat):Int)) (.slice none 0 0) (.slice none 0 0));replace K1:=ι (((K1.out.setCell (p:=⟨w1.heap.size,0,none⟩) (Nat.le_refl _) (.int .i64 ((n:Nat):Int))).setCell (p:=⟨w1.heap.size,1,none⟩) (Nat.le_refl _) (.slice none 0 0)).setCell (p:=⟨w1.heap.size,2,none⟩) (Nat.le_refl _) (.slice none 0 0))
 generalize (((w2).setCell ⟨w1.heap.size,0,none⟩ (.int .i64 ((n:Nat):Int))).setCell ⟨w1.heap.size,1,none⟩ (.slice none 0 0)).setCell ⟨w1.heap.size,2,none⟩ (.slice none 0 0)=w5 at *;have CH:=ι (ChR.start FC.out (Nat.le_refl _));clear FC;go_upto_region 2 with (fail);refine Rg.wl ?_;refine Rg.lm 14 (.pointer (some ⟨tb,0,none⟩)) ?_;go_frame;refine Rg.lr 15 (exec_nil _ rfl rfl) ?_;go_frame;refine Rg.lr 16 (exec_field _ rfl rfl (towF1 _ _)) ?_;go_frame;refine Rg.lr 17 (Rg.lo (.slice (some ⟨L,0,none⟩) n n) ⟨tb,1,none⟩ (Rg.run_loadSl _ _ Tryz.underlying168 ((Below.cell (p:=⟨tb,1,none⟩) K1.out C1.out.lt).trans C1.out.cell))) ?_;go_frame;refine Rg.lr 18 (Rg.ln Tryz.underlying168) ?_;go_frame;refine Rg.lm 19 (.int .i64 ((0:Nat):Int)) ?_;go_frame;have HPC:=ι (Cm.PC.nil n H (trOf T));go_wp2
 go_loopw [19] (fun iv wr=>∃ (k:Nat) (ov rv:Value) (O:List (List Nat)) (R:List (List (List Nat))),iv=.int .i64 k∧k≤n∧Hid (ChR w1.heap.size wr w1.heap.size (.int .i64 ((n:Nat):Int)) ov rv ov rv (O.map Ma.ofN) (R.map (List.map Ma.ofN)))∧Hid (Below w1.heap.size w1 wr)∧Hid (Cm.PC n H (trOf T) k O R)) (fun iv _=>n - (intOf iv).toNat)
 case atStart=>exact ⟨0,_,_,[],[],rfl,Nat.zero_le _,CH,K1,HPC⟩
 case round =>
  clear CH K1 HPC;obtain ⟨k,ov,rv,O,R,rfl,hk,CH,K1,HPC⟩:=hrel;have hsO:=CH.out.shapeO;have hsR:=CH.out.shapeR;rw [List.length_map] at hsO hsR;obtain ⟨ova,ovc,rfl⟩:=hsO;obtain ⟨rva,rvc,rfl⟩:=hsR
  by_cases hkl:k<n
  ·have hkN:(k:Int)<(n:Int):=by omega
   have hlk:=HL.out k hkl;have hon:=Cm.orb_len hlk;have hko:1≤(T k).orb.length:=List.length_pos_of_mem ((hlk.orb k).2 ⟨_,hlk.self⟩);obtain ⟨l,hl1,hl2,hl3,hl4⟩:=Cm.sort_nat (T k).orb hlk.nd;have HA1:=ι (show Ob.asc (Ma.ofN (T k).orb)=Ma.ofN l by rw [Ob.asc_sort]; exact hl1);have HA2:=ι hl2;have HA3:=ι hl3;have HA4:=ι hl4;obtain ⟨oa,oc,hVo⟩:=HT.out.orbL hkl;have CO:=ι (CL.mk (show w1.cell? ⟨L,k*194+1,none⟩=some (.slice oa (T k).orb.length oc) by rw [getO HT.out hkl rfl,hVo]) HT.out.lt);have SI:=ι (show SInts w1.heap.size w1 (.slice oa (T k).orb.length oc) (Ma.ofN (T k).orb) by have:=SInts.of_own (HT.out.lv k hkl).oown (by rw [Ma.len_ofN]) hko; rwa [hVo] at this);have HKL:=ι hkl;have HLTS:=ι (show (∀ z,(Value.slice ova O.length ovc).ownBlock=some z→z<wr.heap.size)∧(∀ z,(Value.slice rva R.length rvc).ownBlock=some z→z<wr.heap.size)∧w1.heap.size<wr.heap.size from ⟨fun z e=>(CH.out.lts.1 z e).2,fun z e=>(CH.out.lts.2 z e).2,CH.out.tri.lt⟩)
   have SZ1:=ι (SZ.mk (Nat.le_refl wr.heap.size))
   have hkl1:1≤(Ma.ofN (T k).orb).length:=by rw [Ma.len_ofN]; exact hko
   have hkl2:(Ma.ofN (T k).orb).length≤1000000:=by rw [Ma.len_ofN]; omega
   have HO1:=ι (show l.length≤64 by rw [hl4]; omega);have HO2:=ι (show 1≤l.length by rw [hl4]; exact hko);clear hlk hl1 hl2 hl3 hl4 hVo;go_upto_region 5 with (fail);refine Rg.wl ?_;refine Rg.lm 22 (.pointer (some ⟨tb,0,none⟩)) ?_;go_frame;refine Rg.lr 23 (exec_nil _ rfl rfl) ?_;go_frame;refine Rg.lr 24 (exec_field _ rfl rfl (towF1 _ _)) ?_;go_frame;refine Rg.lr 25 (Rg.lo (.slice (some ⟨L,0,none⟩) n n) ⟨tb,1,none⟩ (Rg.run_loadSl _ _ Tryz.underlying168 ((Below.cell (p:=⟨tb,1,none⟩) K1.out C1.out.lt).trans C1.out.cell))) ?_;go_frame;refine Rg.lm 26 (.int .i64 ((k:Nat):Int)) ?_;go_frame;refine Rg.lr 27 (exec_indexZ0 _ _ rfl Tryz.underlying168 szLevel L (n) (n) (k) rfl rfl HKL.out) ?_;go_frame;refine Rg.lr 28 (exec_field _ rfl rfl (lvF1 _ _ _)) ?_;go_frame;refine Rg.lr 29 (Rg.lo (.slice oa (T k).orb.length oc) ⟨L,k*194+1,none⟩ (Rg.run_loadSl _ _ Tryz.underlying25 ((Below.cell (p:=⟨L,k*194+1,none⟩) K1.out CO.out.lt).trans CO.out.cell))) ?_;go_frame
   refine Rg.lk 30 (exec_fn1 123 _ _ rfl rfl (Vzcl0 _ _)) ?_;refine (values_any _ _ _ wr).mono ?_;rintro e1 w11 ⟨fb,rfl,hcl,hb⟩;refine ⟨_,rfl,?_⟩;go_frame;replace CH:=ι (CH.out.below hb);replace SZ1:=ι (SZ1.out.below hb);replace K1:=ι (Rg.acc K1.out hb);clear hb;have FB:=ι hcl;have hszW:=SZ1.out.le;refine Rg.lk 31 (exec_fn1 122 _ _ rfl rfl (Vzcl1 _ _)) ?_;refine (Sorted_any fb _ _ hkl1 hkl2 w11 FB.out.lt FB.out.cell (SI.out.up K1.out)).mono ?_;rintro e1 w12 ⟨v,rfl,hrow,hb⟩;rw [HA1.out,Ma.len_ofN] at hrow;have hrow:=OwI.mk (l:=Ma.ofN l) (by rw [Ma.len_ofN,HA4.out]; exact hrow);have hq:=row_of hrow.own (k:=0) (by rw [Ma.len_ofN]; exact HO2.out);rw [Ma.len_ofN] at hq;obtain ⟨sb,sc,u0,rfl,_,_,_⟩:=hq;have HBB:=ι hszW;refine ⟨_,rfl,?_⟩;go_frame;replace CH:=ι (CH.out.below hb);replace SZ1:=ι (SZ1.out.below hb);replace FB:=ι (FB.out.below hb);replace K1:=ι (Rg.acc K1.out hb)
   clear hb;have R5:=ι hrow;refine Rg.la 5 (.slice (some ⟨sb,0,none⟩) l.length sc) ?_;go_frame;clear hcl hrow FB CO SI;replace HT:=ι (HT.out.below K1.out);replace C0:=ι (C0.out.below K1.out);replace C1:=ι (C1.out.below K1.out);replace FT:=ι (FT.out.below K1.out);have K5:=ι (Below.refl w12.heap.size w12);have RP:=ι (RowP.nil w12.heap.size w12);have HRS:=ι (show ∀ j,j<0→Cm.Lst n (fun z=>Cm.St H k z∧Cm.ap z k=l.getD j 0) (([]:List (List Nat)).getD j []) from fun j h=>absurd h (Nat.not_lt_zero _));go_wp2
   go_loopw [34,6] (fun iv tv wq=>∃ (m:Nat) (rs:List (List Nat)),iv=.int .i64 m∧m≤l.length∧rs.length=m∧Hid (RowP w12.heap.size wq tv (rs.map Ma.ofN))∧Hid (Below w12.heap.size w12 wq)∧Hid (∀ j,j<m→Cm.Lst n (fun z=>Cm.St H k z∧Cm.ap z k=l.getD j 0) (rs.getD j []))) (fun iv _ _=>l.length - (intOf iv).toNat)
   case atStart=>exact ⟨0,[],rfl,Nat.zero_le _,rfl,RP,K5,HRS⟩
   case round =>
    clear K5 RP HRS;obtain ⟨m,rs,rfl,hm,hrs,RP,K5,HRS⟩:=hrel
    have hlN:(l.length:Int)≤64:=by have:=HO1.out; omega
    obtain ⟨ta,tc,rfl⟩:=RP.out.shape
    by_cases hml:m<l.length
    ·have hmN:(m:Int)<(l.length:Int):=by omega
     obtain ⟨p,hp⟩:∃ p:Nat,Hid (p=l[m]):=⟨_,ι rfl⟩
     have hcell:w12.cell? ⟨sb,0+m,none⟩=some (.int .i64 ((p:Nat):Int)):=by
      obtain ⟨g,c,u,e1,e2,e3,_⟩:=row_of R5.out.own (k:=m) (by rw [Ma.len_ofN]; exact hml);simp only [Value.slice.injEq,Option.some.injEq,Addr.mk.injEq] at e1;obtain ⟨⟨rfl,_,_⟩,_,_⟩:=e1;rw [e2,← e3,hp.out];simp [Ma.ofN,List.getElem?_eq_getElem hml]
     have CS:=ι (CL.mk hcell (lt_of_cell hcell));obtain ⟨u,hu⟩:=((HL.out k HKL.out).orb p).1 ((HA3.out p).1 (by rw [hp.out]; exact List.getElem_mem hml));have hlk:=HL.out k HKL.out;have hpn:=hlk.tlt p u hu
     have hp64:p<64:=by omega
     have GU:=ι (hlk.tgd p u hu);have HU:=ι hu;obtain ⟨ub,uo,uc,hVu,hUP⟩:=HT.out.toS HKL.out hp64 hu GU.out hn1;have UP:=ι hUP;have CU:=ι (CL.mk (show w12.cell? ⟨L,k*194+2+p,none⟩=some (.slice (some ⟨ub,uo,none⟩) n uc) by rw [getTo HT.out HKL.out hp64 (by omega),hVu]) HT.out.lt);have HML:=ι hml;have HRL:=ι hrs;clear hcell hu hlk hVu hUP hrs;go_upto_region 9 with (fail);refine Rg.wl ?_;refine Rg.lr 36 (exec_indexS slInts _ _ rfl sb (0) (l.length) sc (m) rfl rfl HML.out) ?_;go_frame;refine Rg.lr 37 (Rg.lo (.int .i64 ((p:Nat):Int)) ⟨sb,0+m,none⟩ (run_loadInt ((Below.cell (p:=⟨sb,0+m,none⟩) K5.out CS.out.lt).trans CS.out.cell))) ?_;go_frame;refine Rg.la 8 (.int .i64 ((p:Nat):Int)) ?_;go_frame;go_upto_region 10 with (fail);refine Rg.wl ?_;refine Rg.lm 38 (.slice ta (rs.map Ma.ofN).length tc) ?_;go_frame;refine Rg.lm 39 (.pointer (some ⟨tb,0,none⟩)) ?_;go_frame
     refine Rg.lm 40 (.pointer (some ⟨tb,0,none⟩)) ?_;go_frame;refine Rg.lr 41 (exec_nil _ rfl rfl) ?_;go_frame;refine Rg.lr 42 (exec_field _ rfl rfl (towF1 _ _)) ?_;go_frame;refine Rg.lr 43 (Rg.lo (.slice (some ⟨L,0,none⟩) n n) ⟨tb,1,none⟩ (Rg.run_loadSl _ _ Tryz.underlying168 ((Below.cell (p:=⟨tb,1,none⟩) K5.out C1.out.lt).trans C1.out.cell))) ?_;go_frame;refine Rg.lm 44 (.int .i64 ((k:Nat):Int)) ?_;go_frame;refine Rg.lm 45 (.int .i64 ((p:Nat):Int)) ?_;go_frame;refine Rg.lr 46 (exec_indexZ0 _ _ rfl Tryz.underlying168 szLevel L (n) (n) (k) rfl rfl HKL.out) ?_;go_frame;refine Rg.lr 47 (exec_field _ rfl rfl (lvF2 _ _ _)) ?_;go_frame;refine Rg.lr 48 (exec_indexArr _ _ rfl Tryz.underlying175 szP L (k*194+2) (p) rfl rfl hp64) ?_;go_frame;refine Rg.lr 49 (Rg.lo (.slice (some ⟨ub,uo,none⟩) n uc) ⟨L,k*194+2+p,none⟩ (Rg.run_loadSl _ _ Tryz.underlying30 ((Below.cell (p:=⟨L,k*194+2+p,none⟩) K5.out CU.out.lt).trans CU.out.cell))) ?_;go_frame
     refine Rg.lm 50 (.int .i64 ((k:Nat):Int)) ?_;go_frame;refine Rg.lk 51 (exec_fn3 125 _ _ _ _ rfl rfl rfl rfl (Vzcl2 _ _)) ?_;refine (least_any hn1 hn2 (HT.out.below K5.out) (C0.out.below K5.out) (C1.out.below K5.out) HH.out HTR.out HL.out (UP.out.below K5.out) GU.out HKL.out).mono ?_;rintro e1 w41 ⟨F2,yv,y,rfl,_,_,hy,hli,hgy,hb⟩;have HLI:=ι hli;have GY:=ι hgy;refine ⟨_,rfl,?_⟩;go_frame;replace RP:=ι (RP.out.below hb);replace K5:=ι (Rg.acc K5.out hb);clear hb;have YN:=ι hy;have HLT6:=ι (fun z e=>(RP.out.lt z e).2);have HSZ6:=ι K5.out.size;refine Rg.lk 52 (exec_fn1 124 _ _ rfl rfl (Vzcl3 _ _)) ?_;refine (Clone_any _ (Ma.ofN y) w41 YN.out.np (by rw [Ma.len_ofN,GY.out.2]; exact hn1) (by rw [Ma.len_ofN,GY.out.2]; omega)).mono ?_;rintro e1 w42 ⟨cv,rfl,hrow,hb⟩;obtain ⟨ca,cc,rfl⟩:=Rg.row_shape hrow;have HROW:=ι hrow;refine ⟨_,rfl,?_⟩;go_frame;replace RP:=ι (RP.out.below hb)
     replace YN:=ι (YN.out.below hb);replace K5:=ι (Rg.acc K5.out hb);clear hb;refine Rg.lr 53 (Rg.exec_buildSlice _ _ _ rfl (.slice ca (Ma.ofN y).length cc) rfl (run_build1P w42 _ ⟨_,_,_,rfl⟩)) ?_;go_frame;obtain ⟨a9,c9,X9,r1,r2,r3⟩:=RP.out.push K5.out.size HROW.out (by rw [Ma.len_ofN,GY.out.2]; omega) (fun z e=>⟨by have:=(HROW.out.lt z e).1; have:=HSZ6.out; omega,fun e2=>by have:=(HROW.out.lt z e).1; have:=HLT6.out z e2; omega⟩) (by rw [List.length_map,HRL.out]; have:=HO1.out; have:=HML.out; omega) 22;refine Rg.lr 54 (Rg.exec_append _ _ _ rfl rfl rfl r1) ?_;go_frame;refine Rg.la 6 (.slice a9 ((rs.map Ma.ofN).length+1) c9) ?_;go_frame;have K6:=ι (r3 (Nat.le_refl _) K5.out);have RP2:=ι (show RowP w12.heap.size X9 (.slice a9 ((rs.map Ma.ofN).length+1) c9) ((rs++[y]).map Ma.ofN) by rw [List.map_append]; exact r2);have HLS:=ι (Cm.LI.done HH.out HKL.out ⟨HTR.out.mem k p u HKL.out HU.out,HTR.out.rp.fx k p u (Nat.zero_le _) HKL.out HU.out⟩ HLI.out)
     have HRS2:=ι (show ∀ j,j<m+1→Cm.Lst n (fun z=>Cm.St H k z∧Cm.ap z k=l.getD j 0) ((rs++[y]).getD j []) from fun j hj=>by
      have hl:=HRL.out
      by_cases e:j=m
      ·subst e
       have e1:(rs++[y]).getD j []=y:=by
        rw [List.getD_eq_getElem?_getD,List.getElem?_append_right (by omega),hl]; simp
       have e2:l.getD j 0=p:=by
        rw [hp.out,List.getD_eq_getElem?_getD,List.getElem?_eq_getElem HML.out]; rfl
       have e3:Cm.ap u k=p:=HTR.out.rp.at_ k p u (Nat.zero_le _) HKL.out HU.out;rw [e1,e2];have:=HLS.out
       rwa [e3] at this
      ·have e1:(rs++[y]).getD j []=rs.getD j []:=by
        rw [List.getD_eq_getElem?_getD,List.getD_eq_getElem?_getD,List.getElem?_append_left (by omega)]
       rw [e1]
       exact HRS.out j (by omega))
     have HRL2:=ι (show (rs++[y]).length=m+1 by rw [List.length_append,HRL.out]; rfl);clear r1 r2 r3;go_wp2
     go_roundw
     case rel=>exact ⟨m+1,rs++[y],by go_num,HML.out,HRL2.out,RP2,K6,HRS2⟩
     case measure=>simp [intOf]; have:=HML.out; omega
    ·obtain rfl:m=l.length:=by omega
     have hmN:¬ (l.length:Int)<(l.length:Int):=by omega
     replace CH:=ι (CH.out.below K5.out);replace K1:=ι (Rg.acc K1.out K5.out);have SZ5:=SZ1.out.le;replace SZ1:=ι (SZ1.out.below K5.out);have hR5:=R5.out.below K5.out
     have PD:=ι (Pend.mk CH.out (hR5.fi (by rw [Ma.len_ofN]; omega) (G:=GS2 w1.heap.size wr w1.heap.size (Value.slice ova O.length ovc) (Value.slice rva R.length rvc)) (fun z g1 g2=>⟨by have:=HBB.out; have:=HLTS.out.2.2; omega,g2,fun e=>by have:=HBB.out; have:=HLTS.out.1 z e; omega,fun e=>by have:=HBB.out; have:=HLTS.out.2.1 z e; omega,by have:=HBB.out; have:=HLTS.out.2.2; omega⟩))
      (RP.out.frows (by rw [List.length_map,hrs]; omega) (G:=GS2 w1.heap.size wr w1.heap.size (Value.slice ova O.length ovc) (Value.slice rva R.length rvc)) (fun z g1 g2=>⟨by have:=HLTS.out.2.2; omega,g2,fun e=>by have:=HLTS.out.1 z e; omega,fun e=>by have:=HLTS.out.2.1 z e; omega,by have:=HLTS.out.2.2; omega⟩)))
     have HRSL:=ι hrs;have HOL:=ι (show (O.map Ma.ofN).length<1000000 by rw [List.length_map,HPC.out.lenO]; omega);have HRLn:=ι (show (R.map (List.map Ma.ofN)).length<1000000 by rw [List.length_map,HPC.out.lenR]; omega);clear SZ5 hR5 CH RP R5 FT hrs;go_upto_region 12 with (fail);have hV1:Below wr.heap.size wr wr.drew:=(Below.refl _ _).drew;replace PD:=ι (PD.out.below hV1);replace K1:=ι (Rg.acc K1.out hV1);replace SZ1:=ι (SZ1.out.below hV1);clear hV1;have hV0:Below wr.heap.size wr wr.drew:=(Below.refl _ _).drew;generalize Fup F wr wr.drew=F1 at *;clear hV0;refine Rg.Any.begin (S:=Rg.Both 11 (fun W:World=>Tri W w1.heap.size (.int .i64 ((n:Nat):Int)) (Value.slice ova O.length ovc) (Value.slice rva R.length rvc)∧Below w1.heap.size w1 W) (fun _=>True)) mix ?_;generalize wr.drew=w61 at *;have hS:∀ (l:Array Bool) W,(fun W:World=>Tri W w1.heap.size (.int .i64 ((n:Nat):Int)) (Value.slice ova O.length ovc) (Value.slice rva R.length rvc)∧Below w1.heap.size w1 W) W→Rg.Both 11 (fun W:World=>Tri W w1.heap.size (.int .i64 ((n:Nat):Int)) (Value.slice ova O.length ovc) (Value.slice rva R.length rvc)∧Below w1.heap.size w1 W) (fun _=>True) l W:=fun l W h=>⟨.inr h,trivial⟩
     have hS2:∀ (l:Array Bool) W,l.getD 11 false=true→Rg.Both 11 (fun W:World=>Tri W w1.heap.size (.int .i64 ((n:Nat):Int)) (Value.slice ova O.length ovc) (Value.slice rva R.length rvc)∧Below w1.heap.size w1 W) (fun _=>True) l W:=fun l W h=>⟨.inl h,trivial⟩;have hI:(fun W:World=>Tri W w1.heap.size (.int .i64 ((n:Nat):Int)) (Value.slice ova O.length ovc) (Value.slice rva R.length rvc)∧Below w1.heap.size w1 W) w61:=⟨PD.out.ch.tri,K1.out⟩;refine Rg.tg 0 11 (.pointer (some ⟨w1.heap.size,1,none⟩)) 56 rfl rfl (.inl ⟨rfl,fun w _=>exec_field _ rfl rfl (chF1 _ _)⟩) (hS _ _ hI) ?_;go_frame;refine Rg.tT 1 11 (.slice ova O.length ovc) 57 rfl rfl (Rg.yc ⟨w1.heap.size,1,none⟩ (fun W hW=>Rg.run_loadSl _ _ Tryz.underlying84 hW.1.c1)) (hS _ _ hI) ?_;go_frame;refine Rg.tm 2 11 (.slice (some ⟨sb,0,none⟩) l.length sc) 58 (hS _ _ hI) ?_;go_frame;refine Rg.tg 5 11 (.pointer (some ⟨w1.heap.size,2,none⟩)) 61 rfl rfl (.inl ⟨rfl,fun w _=>exec_field _ rfl rfl (chF2 _ _)⟩) (hS _ _ hI) ?_;go_frame
     refine Rg.tT 6 11 (.slice rva R.length rvc) 62 rfl rfl (Rg.yc ⟨w1.heap.size,2,none⟩ (fun W hW=>Rg.run_loadSl _ _ Tryz.underlying85 hW.1.c2)) (hS _ _ hI) ?_;go_frame;refine Rg.tm 7 11 (.slice ta (rs.map Ma.ofN).length tc) 63 (hS _ _ hI) ?_;go_frame
     refine Rg.Any.c2f1q (i:=3) (k:=4) (j:=8) (q:=10) (di:=59) (dk:=60) (dj:=64) (dq:=66) (vq:=.pointer (some ⟨w1.heap.size,1,none⟩)) (I:=fun W=>(fun W:World=>Tri W w1.heap.size (.int .i64 ((n:Nat):Int)) (Value.slice ova O.length ovc) (Value.slice rva R.length rvc)∧Below w1.heap.size w1 W) W∧w61.heap.size≤W.heap.size) (R0:=fun W=>Pend w1.heap.size W w1.heap.size (.int .i64 ((n:Nat):Int)) (Value.slice ova O.length ovc) (Value.slice rva R.length rvc) (Value.slice ova O.length ovc) (Value.slice rva R.length rvc) (O.map Ma.ofN) (R.map (List.map Ma.ofN)) (.slice (some ⟨sb,0,none⟩) l.length sc) (Ma.ofN l) (.slice ta (rs.map Ma.ofN).length tc) (rs.map Ma.ofN)) (Ri:=fun u W=>Rg.BlkF w61.heap.size [.slice (some ⟨sb,0,none⟩) l.length sc] u W) (Rk:=fun x W=>ChR w1.heap.size W w1.heap.size (.int .i64 ((n:Nat):Int)) (Value.slice ova O.length ovc) (Value.slice rva R.length rvc) x (Value.slice rva R.length rvc) (O.map Ma.ofN++[Ma.ofN l]) (R.map (List.map Ma.ofN))∧Rg.FRows (GS2 w1.heap.size W w1.heap.size x (Value.slice rva R.length rvc)) W (.slice ta (rs.map Ma.ofN).length tc) (rs.map Ma.ofN)∧∃ a c,x=.slice a (O.length+1) c) (Rj:=fun v W=>Rg.BlkF w61.heap.size [.slice ta (rs.map Ma.ofN).length tc] v W) (fun l W h=>hS l W h.1)
      (by decide) (by decide) (by decide) (by decide) (by decide) (by decide) (by kernel_rfl) (by kernel_rfl) (by kernel_rfl) (by kernel_rfl) (by kernel_rfl) ?_ ?_
      (fun _ _ hb h=>h.below hb) (fun _ _ _ hb h=>h.below hb) (fun _ _ _ hb h=>⟨h.1.below hb,frows_below h.2.1 hb,h.2.2⟩) (fun _ _ _ hb h=>h.below hb) ?_ ?_ ?_ ⟨hI,Nat.le_refl _⟩ (PD.out) ?_
     ·intro u x W m hs h
      exact Rg.Any.takeG (i:=10) (t:=11) (v:=.pointer (some ⟨w1.heap.size,1,none⟩)) (some 66) rfl rfl (by kernel_rfl) (by kernel_rfl) (by kernel_rfl) (fun _ _ _ h=>h) rfl (.inl ⟨rfl,fun w _=>exec_field _ rfl rfl (chF1 _ _)⟩) hs h
     ·intro u v x W m hs h
      exact Rg.Any.takeG (i:=10) (t:=11) (v:=.pointer (some ⟨w1.heap.size,1,none⟩)) (some 66) rfl rfl (by kernel_rfl) (by kernel_rfl) (by kernel_rfl) (fun _ _ _ h=>h) rfl (.inl ⟨rfl,fun w _=>exec_field _ rfl rfl (chF1 _ _)⟩) hs h
     ·intro b hb W hW
      have hbA:Below W.heap.size W (W.alloc (.cells #[.slice (some ⟨sb,0,none⟩) l.length sc] 25)):=(Below.refl _ _).alloc (Nat.le_refl _) _
      exact Rg.doesRun rfl rfl (by rcases hb with rfl | ⟨u,rfl⟩ <;> rfl) (Rg.exec_buildSlice _ _ _ rfl (.slice (some ⟨sb,0,none⟩) l.length sc) (by rcases hb with rfl | ⟨u,rfl⟩ <;> rfl) (run_build1L W _ ⟨_,_,_,rfl⟩)) ⟨⟨⟨hW.1.1.below hbA,Rg.acc hW.1.2 hbA⟩,by simp; have:=hW.2; omega⟩,Rg.BlkF.new W [.slice (some ⟨sb,0,none⟩) l.length sc] 25 hW.2,hbA⟩
     ·intro b hb W hW
      have hbA:Below W.heap.size W (W.alloc (.cells #[.slice ta (rs.map Ma.ofN).length tc] 22)):=(Below.refl _ _).alloc (Nat.le_refl _) _
      exact Rg.doesRun rfl rfl (by rcases hb with rfl | ⟨u,rfl⟩ | ⟨u,v,rfl⟩ <;> rfl) (Rg.exec_buildSlice _ _ _ rfl (.slice ta (rs.map Ma.ofN).length tc) (by rcases hb with rfl | ⟨u,rfl⟩ | ⟨u,v,rfl⟩ <;> rfl) (run_build1PP W _ ⟨_,_,_,rfl⟩)) ⟨⟨⟨hW.1.1.below hbA,Rg.acc hW.1.2 hbA⟩,by simp; have:=hW.2; omega⟩,Rg.BlkF.new W [.slice ta (rs.map Ma.ofN).length tc] 22 hW.2,hbA⟩
     ·intro u b hb W hW h0 hu
      obtain ⟨pu,rfl,hp0,hp1,hp2⟩:=hu;obtain ⟨a2,c2,X,r1,r2,r3,r4⟩:=h0.ch.pushO hW.1.2.size h0.f5 rfl HOL.out (hp2 0 (by simp)) 84;have hkX:=Rg.Kp.of_grown r3 (M:=fun z=>(Value.slice ova O.length ovc).ownBlock=some z) (fun _ e=>e)
      exact Rg.doesRun rfl rfl (by rcases hb with rfl | ⟨v,rfl⟩ <;> rfl) (Rg.exec_append _ _ _ rfl (by rcases hb with rfl | ⟨v,rfl⟩ <;> rfl) (by rcases hb with rfl | ⟨v,rfl⟩ <;> rfl) r1) ⟨⟨⟨r2.tri,hW.1.2.grown r3 hW.1.2.size (fun j e=>(h0.ch.lts.1 j e).1)⟩,Nat.le_trans hW.2 r3.size⟩,⟨r2,FRows.mono (FRows.kp h0.f6 hkX (fun z g e=>g.2.2.1 e)) r4,_,_,by rw [List.length_map]⟩,fun v hv=>hv.grown r3 (fun j e=>Nat.lt_of_lt_of_le (HLTS.out.1 j e) SZ1.out.le)⟩
     rintro w62 fu fx fv hb hk hj;have hI2_f:=hb.1;have hVsz:=hb.2;clear hb hI;go_frame;have FK:=ι hk;have FJ:=ι hj;obtain ⟨pj,hje,hj0,hj1,hj2⟩:=FJ.out;subst hje;obtain ⟨a2,c2,hfx⟩:=FK.out.2.2;subst hfx;obtain ⟨a3,c3,X3,q1,q2,q3⟩:=FK.out.1.pushR hI2_f.2.size FK.out.2.1 rfl HRLn.out (hj2 0 (by simp)) 85;rw [List.length_map] at q1 q2;have hI3_m:=(show _∧_ from ⟨q2.tri,hI2_f.2.grown q3 hI2_f.2.size (fun j e=>(FK.out.1.lts.2 j e).1)⟩);refine Rg.aR 9 65 rfl rfl (Rg.exec_append _ _ _ rfl rfl rfl q1) (hS _ _ hI3_m) ?_;go_frame;have KX:=ι hI3_m.2;refine Rg.Any.one (i:=11) (by kernel_rfl) (Rg.Any.runSkip none rfl rfl rfl (Rg.exec_store _ _ _ rfl _ rfl _ rfl (Rg.run_storeSl _ infoIntss q2.tri.c1 q2.tri.f1)) (hS2 _ _ rfl) ?_);go_frame;refine Rg.tg 12 11 (.pointer (some ⟨w1.heap.size,2,none⟩)) 67 rfl rfl (.inl ⟨rfl,fun w _=>exec_field _ rfl rfl (chF2 _ _)⟩) (hS2 _ _ rfl) ?_;go_frame
     refine Rg.Any.one (i:=13) (by kernel_rfl) (Rg.Any.runSkip none rfl rfl rfl (Rg.exec_store _ _ _ rfl _ rfl _ rfl (Rg.run_storeSl _ infoPermss (q2.tri.set1 _).c2 (q2.tri.set1 _).f2)) (hS2 _ _ rfl) ?_);go_frame;refine Rg.Any.done (by kernel_rfl) ?_ _;clear hS2;clear hS hI3_m;have hst:=q2.store (.slice a2 (O.length+1) c2) (.slice a3 (R.length+1) c3);have hkk:=(KX.out.setCell (p:=⟨w1.heap.size,1,none⟩) (Nat.le_refl _) (.slice a2 (O.length+1) c2)).setCell (p:=⟨w1.heap.size,2,none⟩) (Nat.le_refl _) (.slice a3 (R.length+1) c3);generalize (X3.setCell ⟨w1.heap.size,1,none⟩ (.slice a2 (O.length+1) c2)).setCell ⟨w1.heap.size,2,none⟩ (.slice a3 (R.length+1) c3)=w99 at *;have CH2:=ι (show ChR w1.heap.size w99 w1.heap.size (.int .i64 ((n:Nat):Int)) (.slice a2 (O.length+1) c2) (.slice a3 (R.length+1) c3) (.slice a2 (O.length+1) c2) (.slice a3 (R.length+1) c3) ((O++[l]).map Ma.ofN) ((R++[rs]).map (List.map Ma.ofN)) by rw [List.map_append,List.map_append]; exact hst)
     have K2:=ι hkk;have HP2:=ι (HPC.out.snoc HA2.out (fun p=>(HA3.out p).trans ((HL.out k HKL.out).orb p)) HRSL.out HRS.out);clear hst hkk q1 q2 q3 KX FK FJ PD;go_wp2
     go_roundw
     case rel=>exact ⟨k+1,_,_,O++[l],R++[rs],by go_num,HKL.out,CH2,K2,HP2⟩
     case measure=>simp [intOf]; have:=HKL.out; omega
  ·obtain rfl:k=n:=by omega
   have hkN:¬ (k:Int)<(k:Int):=by omega
   have TT:=ι (FT.out.below K1.out);go_upto_region 14 with (fail);refine Rg.wl ?_;refine Rg.lr 69 (Rg.exec_load _ _ rfl ⟨w1.heap.size,0,none⟩ rfl (run_loadC CH.out.tri)) ?_;go_frame;refine Rg.list_skip none rfl rfl (Rg.exec_store _ _ _ rfl _ rfl _ rfl (run_storeC _ _ _ _ _ _ _ TT.out)) ?_;go_frame;have hkt:=Rg.Kp.trans (Rg.Kp.trans (Rg.Kp.of_setCell (M:=fun z=>z=w.heap.size) (w:=wr) (a:=⟨w.heap.size,0,none⟩) (v:=.int .i64 ((k:Nat):Int)) rfl) (Rg.Kp.of_setCell (M:=fun z=>z=w.heap.size) (a:=⟨w.heap.size,1,none⟩) (v:=(Value.slice ova O.length ovc)) rfl) (fun _ _ e=>e)) (Rg.Kp.of_setCell (M:=fun z=>z=w.heap.size) (a:=⟨w.heap.size,2,none⟩) (v:=(Value.slice rva R.length rvc)) rfl) (fun _ _ e=>e);have hch:=CH.out.kp hkt (fun z e=>by rw [e]; exact hlo1);have htt:=TT.out.set (.int .i64 ((k:Nat):Int)) (Value.slice ova O.length ovc) (Value.slice rva R.length rvc)
   have hkf:=((((K.out.trans (K1.out.mono K.out.size)).setCell (p:=⟨w.heap.size,0,none⟩) (Nat.le_refl _) (.int .i64 ((k:Nat):Int))).setCell (p:=⟨w.heap.size,1,none⟩) (Nat.le_refl _) (Value.slice ova O.length ovc)).setCell (p:=⟨w.heap.size,2,none⟩) (Nat.le_refl _) (Value.slice rva R.length rvc));have hfin:=HPC.out.isChain HTR.out
   have hfr2:∀ (X:World) (c0 c1 c2 a b:Value),ChR w1.heap.size X w1.heap.size c0 c1 c2 a b (O.map Ma.ofN) (R.map (List.map Ma.ofN))→FRows2 (fun z=>w.heap.size≤z) X b (R.map (List.map Ma.ofN)):=fun _ _ _ _ _ _ h=>by
    obtain ⟨us,h1,h2⟩:=h.frR (by rw [List.length_map,HPC.out.lenR]; omega);exact ⟨us,h1.mono (fun z hz=>by omega),FElts2.mono h2 (fun z hz=>by omega)⟩
   go_wp2;exact bodyPost_ret (results_cellC rfl _ rfl htt) rfl ⟨_,_,rfl,O,FRows.mono (hch.frO (by rw [List.length_map,HPC.out.lenO]; omega)) (fun z hz=>by omega),R,hfr2 _ _ _ _ _ _ hch,hfin,hkf⟩
end Go.Proofs.YtdnmmibchbceeaaGreat

namespace Go.Proofs.YtdnmmibchbceeaaGreat
open Go.RowKit
open Go.Proofs
open Go.Proofs.Ob
open Go.Proofs.Cm (Lv Twr trOf)
attribute [local irreducible] Go.Calls
theorem Wbcl0 (args:Array Value) (w:World):(callFunc 40 args).run Tryz.prog w=.ok (.enter 40 args) w:=by kernel_rfl
theorem Wbcl1 (args:Array Value) (w:World):(callFunc 97 args).run Tryz.prog w=.ok (.enter 97 args) w:=by kernel_rfl
theorem Wbcl2 (args:Array Value) (w:World):(callFunc 98 args).run Tryz.prog w=.ok (.enter 98 args) w:=by kernel_rfl
def ChIs (w:World) (cv:Value) (n:Nat) (gs:List (List Nat)):Prop:=∃ ov rv O R,cv=.agg #[.int .i64 ((n:Nat):Int),ov,rv]∧Rg.Rows w ov (O.map Ma.ofN)∧Rows2 w rv (R.map (List.map Ma.ofN))∧Cm.IsChain n (Cm.Gr n (·∈gs)) O R
def zeroC:Value:=.agg #[.int .i64 0,.slice none 0 0,.slice none 0 0]
def ChAns (w:World) (d:Int) (ll:List (List Int)) (cv:Value) (c:Int):Prop:=(c≠0∧cv=zeroC)∨(c=0∧∃ n gs,d=((n:Nat):Int)∧ll=gs.map Ma.ofN∧1≤n∧n≤64∧ChIs w cv n gs)
theorem ChIs.below {w w':World} {cv:Value} {n:Nat} {gs:List (List Nat)} (h:ChIs w cv n gs) (hb:Below w.heap.size w w'):ChIs w' cv n gs:=by
 obtain ⟨ov,rv,O,R,h1,h2,h3,h4⟩:=h;exact ⟨ov,rv,O,R,h1,h2.below hb,h3.below hb,h4⟩
theorem ChAns.below {w w':World} {d:Int} {ll:List (List Int)} {cv:Value} {c:Int} (h:ChAns w d ll cv c) (hb:Below w.heap.size w w'):ChAns w' d ll cv c:=by
 rcases h with h | ⟨h0,n,gs,h1,h2,h3,h4,h5⟩
 ·exact .inl h
 ·exact .inr ⟨h0,n,gs,h1,h2,h3,h4,h5.below hb⟩
theorem build_b (hn1:1≤n) (hn2:n≤64) (hv:Rg.Rows w v (gs.map Ma.ofN)) (hg:∀ s∈gs,Cm.Gd n s) (hgl:gs.length≤1000000) :
  Calls Tryz.prog 97 #[.int .i64 ((n:Nat):Int),v] w fun e w'=>∃ (tb L:Nat) (F':Nat→Prop) (T':Twr) (V':Nat→LV),e=.returned (.pointer (some ⟨tb,0,none⟩))∧TowAt F' L n w' T' V'∧CF F' w' tb 0 (.int .i64 ((n:Nat):Int))∧CF F' w' tb 1 (.slice (some ⟨L,0,none⟩) n n)∧Cm.Built n (·∈gs) T'∧Below w.heap.size w w':=by
 refine (build_any hn1 hn2 (GS.of_rows hv) hg hgl).mono ?_;rintro e w' ⟨tb,L,F',T',V',rfl,hk,h1,h2,h3,h4⟩;exact ⟨tb,L,F',T',V',rfl,h1,h2,h3,h4,hk.kf.below (Nat.le_refl _) (fun _ h=>h)⟩
theorem Rows2.shape {lll:List (List (List Int))} (h:Rows2 w v lll):∃ a c,v=.slice a lll.length c:=by
 obtain ⟨us,⟨a,cap,e,_⟩,h2,_⟩:=h;exact ⟨a,cap,by rw [e,h2]⟩
theorem chOf_any (gv:Value) (d:Int) (ll:List (List Int)) (w:World) (h:Rg.Rows w gv ll) :
  Calls Tryz.prog 77 #[.agg #[.int .i64 d,gv]] w fun e w'=>∃ cv,e=.returned (.tuple #[cv,.int .i64 (Ma.gchk d ll)])∧ChAns w' d ll cv (Ma.gchk d ll)∧Below w.heap.size w w':=by
 obtain ⟨ga,gc,rfl,hga,hba⟩:=GI.enter (d) h;have K:=ι hba;have G0:=ι hga;clear h hga hba
 go_enter Tryz.func77,Tryz.ntmps77
 go_upto_region 0 with (fail);refine Rg.wl ?_;refine Rg.lr 1 (Rg.exec_box _ _ rfl rfl) ?_;go_frame;generalize w.alloc (.cells #[.int .i64 d,.slice ga ll.length gc] 24)=w0 at *;have HW0:=ι K.out.size;have hnew:=Tri.new w0 (.int .i64 0) (.slice none 0 0) (.slice none 0 0);refine Rg.lr 2 (exec_allocC rfl) ?_;go_frame;have hb:=(Below.refl w0.heap.size w0).alloc (Nat.le_refl _) (.cells #[.int .i64 0,.slice none 0 0,.slice none 0 0] 87);generalize w0.alloc (.cells #[.int .i64 0,.slice none 0 0,.slice none 0 0] 87)=w1 at *;replace G0:=ι (G0.out.below hb);replace K:=ι (Rg.acc K.out hb);clear hb;have FT:=ι hnew;clear hnew;go_upto_region 1 with (fail);refine Rg.wl ?_;refine Rg.lr 5 (Rg.lo (.agg #[.int .i64 d,.slice ga ll.length gc]) ⟨w.heap.size,0,none⟩ (run_loadG G0.out.c0 G0.out.c1)) ?_;go_frame;refine Rg.lk 6 (exec_fn1 40 _ _ rfl rfl (Wbcl0 _ _)) ?_;refine (orbitCheck_any _ _ _ w1 G0.out.rows).mono ?_
 rintro e1 w2 ⟨rfl,hb⟩;refine ⟨_,rfl,?_⟩;go_frame;replace G0:=ι (G0.out.below hb);replace FT:=ι (FT.out.below hb);replace K:=ι (Rg.acc K.out hb);clear hb;refine Rg.la 4 (.int .i64 (Ma.gchk d ll)) ?_;go_frame
 by_cases hz:Ma.gchk d ll=0
 ·obtain ⟨n,gs,hd,hll,hgg,hn1,hn2,hgl⟩:=gchk_ok hz
  have hgd:∀ s∈gs,Cm.Gd n s:=fun s hs=>hgg s hs;have HLL:=ι hll;have HGL:=ι hgl;have HGD:=ι hgd;subst hd;clear hll hgl hgg hgd;go_upto_region 2 with (fail);refine Rg.wl ?_;refine Rg.lm 7 (.int .i64 (Ma.gchk ((n:Nat):Int) ll)) ?_;go_frame;refine Rg.lr 8 (Rg.bn (.bool false) .neq (h:=b_neqB _ Rg.dF)) ?_;go_frame;go_upto_region 4 with (fail);refine Rg.wl ?_;refine Rg.lr 11 (exec_fieldG0 _ rfl rfl) ?_;go_frame;refine Rg.lr 12 (Rg.lo (.int .i64 ((n:Nat):Int)) ⟨w.heap.size,0,none⟩ (run_loadInt G0.out.c0)) ?_;go_frame;refine Rg.lr 13 (exec_fieldG _ rfl rfl) ?_;go_frame;refine Rg.lr 14 (Rg.lo (.slice ga ll.length gc) ⟨w.heap.size,1,none⟩ (Rg.run_loadSl _ _ Tryz.underlying22 G0.out.c1)) ?_;go_frame;have HWB:=ι FT.out.lt;refine Rg.lk 15 (exec_fn 97 _ _ _ rfl rfl rfl (Wbcl1 _ _)) ?_;refine (build_b hn1 hn2 (by have:=G0.out.rows; rw [show gs.map Ma.ofN=ll from HLL.out.symm]; exact this) HGD.out (by have:=HGL.out; omega)).mono ?_
  rintro e1 w3 ⟨tb,L,F1,T1,V1,rfl,hT1,hc01,hc11,hB1,hb⟩;have HB:=ι hB1;have HWC:=ι (Nat.lt_of_lt_of_le HWB.out hb.size);refine ⟨_,rfl,?_⟩;go_frame;replace G0:=ι (G0.out.below hb);replace FT:=ι (FT.out.below hb);replace K:=ι (Rg.acc K.out hb);clear hb;have HT:=ι hT1;have C0:=ι hc01;have C1:=ι hc11;clear hT1 hc01 hc11 hB1;refine Rg.lk 16 (exec_fn1 98 _ _ rfl rfl (Wbcl2 _ _)) ?_;refine (chain_any hn1 hn2 HT.out C0.out C1.out (Cm.Gr.isG HGD.out) (HB.out.isTr (by omega) HGD.out) (fun j hj=>(HB.out.full j hj).1)).mono ?_;rintro e1 w4 ⟨ov,rv,O,R,rfl,hO,hR,hCh,hb⟩;obtain ⟨oa,oc,rfl,_⟩:=hO.rows.shape;obtain ⟨ra,rc,rfl⟩:=hR.rows.shape;have HO:=ι hO;have HR:=ι hR;have HCH:=ι hCh;clear hO hR hCh;refine ⟨_,rfl,?_⟩;go_frame;replace G0:=ι (G0.out.below hb);replace FT:=ι (FT.out.below hb);replace HT:=ι (HT.out.below hb);replace C0:=ι (C0.out.below hb)
  replace C1:=ι (C1.out.below hb);replace K:=ι (Rg.acc K.out hb);clear hb;refine Rg.list_skip none rfl rfl (Rg.exec_store _ _ _ rfl _ rfl _ rfl (run_storeC _ _ _ _ _ _ _ FT.out)) ?_;go_frame;refine Rg.la 3 (.int .i64 ((0:Nat):Int)) ?_;go_frame;have htt:=FT.out.set (.int .i64 ((n:Nat):Int)) (.slice oa (O.map Ma.ofN).length oc) (.slice ra (R.map (List.map Ma.ofN)).length rc);have hkt:=Rg.Kp.trans (Rg.Kp.trans (Rg.Kp.of_setCell (M:=fun z=>z=w0.heap.size) (w:=w4) (a:=⟨w0.heap.size,0,none⟩) (v:=.int .i64 ((n:Nat):Int)) rfl) (Rg.Kp.of_setCell (M:=fun z=>z=w0.heap.size) (a:=⟨w0.heap.size,1,none⟩) (v:=(.slice oa (O.map Ma.ofN).length oc)) rfl) (fun _ _ e=>e)) (Rg.Kp.of_setCell (M:=fun z=>z=w0.heap.size) (a:=⟨w0.heap.size,2,none⟩) (v:=(.slice ra (R.map (List.map Ma.ofN)).length rc)) rfl) (fun _ _ e=>e);have hro:=FRows.rows (FRows.kp HO.out hkt (fun z g e=>by have:=HWC.out; omega))
  have hrr:=(HR.out.kp hkt (fun z g e=>by have:=HWC.out; omega)).rows;have hkf:=((K.out.setCell (p:=⟨w0.heap.size,0,none⟩) HW0.out (.int .i64 ((n:Nat):Int))).setCell (p:=⟨w0.heap.size,1,none⟩) HW0.out (.slice oa (O.map Ma.ofN).length oc)).setCell (p:=⟨w0.heap.size,2,none⟩) HW0.out (.slice ra (R.map (List.map Ma.ofN)).length rc);generalize ((w4.setCell ⟨w0.heap.size,0,none⟩ (.int .i64 ((n:Nat):Int))).setCell ⟨w0.heap.size,1,none⟩ (.slice oa (O.map Ma.ofN).length oc)).setCell ⟨w0.heap.size,2,none⟩ (.slice ra (R.map (List.map Ma.ofN)).length rc)=w99 at *;have HTT:=ι htt
  have HFI:=ι (show ∃ cv,Ending.returned (.tuple #[.agg #[.int .i64 ((n:Nat):Int),(.slice oa (O.map Ma.ofN).length oc),(.slice ra (R.map (List.map Ma.ofN)).length rc)],.int .i64 0])=.returned (.tuple #[cv,.int .i64 (Ma.gchk ((n:Nat):Int) ll)])∧ChAns w99 ((n:Nat):Int) ll cv (Ma.gchk ((n:Nat):Int) ll)∧Below w.heap.size w w99 from
   ⟨_,by rw [hz],.inr ⟨hz,n,gs,rfl,HLL.out,hn1,hn2,_,_,O,R,rfl,hro,hrr,HCH.out⟩,hkf⟩)
  clear htt hkt hro hrr hkf;go_wp2;exact bodyPost_ret (results_cellC2 (p:=2) (u:=3) rfl _ rfl rfl HTT.out) rfl HFI.out
 ·skip
  go_upto_region 2 with (fail);refine Rg.wl ?_;refine Rg.lm 7 (.int .i64 (Ma.gchk d ll)) ?_;go_frame;refine Rg.lr 8 (Rg.bn (.bool true) .neq (h:=b_neqB _ Rg.dT)) ?_;go_frame;go_upto_region 3 with (fail);refine Rg.wl ?_;refine Rg.lr 9 (exec_buildC0 rfl) ?_;go_frame;refine Rg.lm 10 (.int .i64 (Ma.gchk d ll)) ?_;go_frame;refine Rg.list_skip none rfl rfl (Rg.exec_store _ _ _ rfl _ rfl _ rfl (run_storeC _ _ _ _ _ _ _ FT.out)) ?_;go_frame;refine Rg.la 3 (.int .i64 (Ma.gchk d ll)) ?_;go_frame;have htt:=FT.out.set (.int .i64 0) (.slice none 0 0) (.slice none 0 0);have hkf:=((K.out.setCell (p:=⟨w0.heap.size,0,none⟩) HW0.out (.int .i64 0)).setCell (p:=⟨w0.heap.size,1,none⟩) HW0.out (.slice none 0 0)).setCell (p:=⟨w0.heap.size,2,none⟩) HW0.out (.slice none 0 0);generalize ((w2.setCell ⟨w0.heap.size,0,none⟩ (.int .i64 0)).setCell ⟨w0.heap.size,1,none⟩ (.slice none 0 0)).setCell ⟨w0.heap.size,2,none⟩ (.slice none 0 0)=w99 at *
  have HTT:=ι htt
  have HFI:=ι (show ∃ cv,Ending.returned (.tuple #[zeroC,.int .i64 (Ma.gchk d ll)])=.returned (.tuple #[cv,.int .i64 (Ma.gchk d ll)])∧ChAns w99 d ll cv (Ma.gchk d ll)∧Below w.heap.size w w99 from
   ⟨_,rfl,.inl ⟨hz,rfl⟩,hkf⟩)
  clear htt hkf;go_wp2;exact bodyPost_ret (results_cellC2 (p:=2) (u:=3) rfl _ rfl rfl HTT.out) rfl HFI.out
end Go.Proofs.YtdnmmibchbceeaaGreat

namespace Go.Proofs.YtdnmmibchbceeaaGreat
open Go.RowKit
open Go.Proofs
attribute [local irreducible] Go.Calls
def lg (ll:List (List Int)):Bool:=(ll.take 21).any (fun l=>decide (70<l.length)) || decide (20<ll.length)
end Go.Proofs.YtdnmmibchbceeaaGreat

namespace Go.Proofs.YtdnmmibchbceeaaGreat
open Go.RowKit
open Go.Proofs
open Go.Proofs.Ob
attribute [local irreducible] Go.Calls
theorem GI.fresh {a:Option Addr} {ll:List (List Int)} {c:Nat} (h:Rg.Rows w (.slice a ll.length c) ll) :
  ∃ W,(storeVar 24 ⟨w.heap.size,0,none⟩ (.agg #[.int .i64 d,.slice a ll.length c])).run Tryz.prog (w.alloc (.cells #[.int .i64 0,.slice none 0 0] 24))=.ok () W∧GI W w.heap.size d a ll c∧Below w.heap.size w W:=by
 have n0:(w.alloc (.cells #[.int .i64 0,.slice none 0 0] 24)).cell? ⟨w.heap.size,0,none⟩=some (.int .i64 0):=by rw [Rg.cellNew]; rfl
 have n1:(w.alloc (.cells #[.int .i64 0,.slice none 0 0] 24)).cell? ⟨w.heap.size,1,none⟩=some (.slice none 0 0):=by rw [Rg.cellNew]; rfl
 obtain ⟨p0,p1,p2⟩:=group_set (.int .i64 d) (.slice a ll.length c) n0 n1 ((Below.refl w.heap.size w).alloc (Nat.le_refl _) _) (Nat.le_refl _);exact ⟨_,run_storeG _ a _ c n0 n1 (frozenNewN _ _ _ 0 _) (frozenNewN _ _ _ 0 _),⟨p0,p1,Rg.Rows.below h p2,by simp⟩,p2⟩
end Go.Proofs.YtdnmmibchbceeaaGreat

namespace Go.Proofs.YtdnmmibchbceeaaGreat
open Go.RowKit
open Go.Proofs
open Go.Proofs.Ob
open Go.Proofs.Cm (Lv Twr trOf)
attribute [local irreducible] Go.Calls
theorem Rows2.nil (w:World) (a:Option Addr) (c:Nat) (hc:c≤maxLen):Rows2 w (.slice a 0 c) []:=⟨[],Rg.Vals.nil w a c hc,rfl,fun i h=>by simp at h⟩
theorem Rows2.at' {a:Option Addr} {c:Nat} {lll:List (List (List Int))} (h:Rows2 w (.slice a m c) lll) (hk:k<lll.length):∃ b o,a=some ⟨b,o,none⟩∧b<w.heap.size∧∃ u,w.cell? ⟨b,o+k,none⟩=some u∧Rg.Rows w u lll[k]:=by
 obtain ⟨us,⟨a',cap,e,_,_,_,h5⟩,h2,h3⟩:=h;obtain ⟨b,o,e1,e2,e3⟩:=h5 (by omega);simp at e;obtain ⟨rfl,_,_⟩:=e;exact ⟨b,o,e1,e2,us[k],e3 k (by omega),h3 k (by omega) hk⟩
end Go.Proofs.YtdnmmibchbceeaaGreat

namespace Go.Proofs.Cm
open Go.Proofs
def idT (n:Nat) (tr:Tr):Tr:=fun i p=>if p=i then some (Ma.oneN n) else tr i p
def setT (tr:Tr) (i p:Nat) (y:List Nat):Tr:=fun j q=>if j=i∧q=p then some y else tr j q
structure TabOk (n:Nat) (gs:List Nat→Prop) (tr:Tr):Prop where
 rp:Rp n 0 (idT n tr)
 diag:∀ i,tr i i=none
 lt:∀ i p u,tr i p=some u→i<n∧p<n
 mem:∀ i p u,tr i p=some u→Gr n gs u
theorem idT_ne {tr:Tr} {i p:Nat} (h:p≠i):idT n tr i p=tr i p:=if_neg h
theorem idT_self {tr:Tr} {i:Nat}:idT n tr i i=some (Ma.oneN n):=if_pos rfl
theorem TabOk.nil0 {gs:List Nat→Prop}:TabOk n gs (fun _ _=>none):=by
 have h:∀ i p u,idT n (fun _ _=>none) i p=some u→p=i∧u=Ma.oneN n:=fun i p u e=>by
  unfold idT at e
  by_cases h:p=i
  ·rw [if_pos h] at e; injection e with e; exact ⟨h,e.symm⟩
  ·rw [if_neg h] at e; cases e
 refine ⟨⟨fun i p u _ _ e=>?_,fun i p u _ hi e=>?_,fun i p u _ hi e=>?_,fun i _ _=>idT_self⟩,fun _=>rfl,fun i p u e=>(by cases e),fun i p u e=>(by cases e)⟩
 ·obtain ⟨_,rfl⟩:=h i p u e; exact gd_one n
 ·obtain ⟨_,rfl⟩:=h i p u e; exact Fx.one (by omega)
 ·obtain ⟨rfl,rfl⟩:=h i p u e; exact ap_one hi
theorem TabOk.put {gs:List Nat→Prop} {tr:Tr} (h:TabOk n gs tr) {i:Nat} {y:List Nat} (hi:i<n) (gy:Gd n y) (fy:Fx i y) (hy:Gr n gs y) (hn:idT n tr i (ap y i)=none) :
  TabOk n gs (setT tr i (ap y i) y)∧∀ j q u,idT n tr j q=some u→idT n (setT tr i (ap y i) y) j q=some u:=by
 have hne:ap y i≠i:=fun e=>by rw [e,idT_self] at hn; cases hn
 have ht:tr i (ap y i)=none:=by rwa [idT_ne hne] at hn
 have hs:∀ j q u,idT n (setT tr i (ap y i) y) j q=some u→idT n tr j q=some u∨(j=i∧q=ap y i∧u=y):=fun j q u e=>by
  by_cases hd:q=j
  ·subst hd; rw [idT_self] at e; left; rw [idT_self]; exact e
  ·rw [idT_ne hd] at e
   unfold setT at e
   by_cases hc:j=i∧q=ap y i
   ·rw [if_pos hc] at e; injection e with e; exact .inr ⟨hc.1,hc.2,e.symm⟩
   ·rw [if_neg hc] at e; left; rw [idT_ne hd]; exact e
 refine ⟨⟨⟨fun j q u a b e=>?_,fun j q u a b e=>?_,fun j q u a b e=>?_,fun j _ _=>idT_self⟩,fun j=>?_,fun j q u e=>?_,fun j q u e=>?_⟩,fun j q u e=>?_⟩
 ·rcases hs j q u e with e | ⟨_,_,rfl⟩
  ·exact h.rp.gd j q u a b e
  ·exact gy
 ·rcases hs j q u e with e | ⟨rfl,_,rfl⟩
  ·exact h.rp.fx j q u a b e
  ·exact fy
 ·rcases hs j q u e with e | ⟨rfl,rfl,rfl⟩
  ·exact h.rp.at_ j q u a b e
  ·rfl
 ·unfold setT
  rw [if_neg (fun e=>hne (by omega))]; exact h.diag j
 ·unfold setT at e
  by_cases hc:j=i∧q=ap y i
  ·exact ⟨by omega,by rw [hc.2]; exact ap_lt gy hi⟩
  ·rw [if_neg hc] at e; exact h.lt j q u e
 ·unfold setT at e
  by_cases hc:j=i∧q=ap y i
  ·rw [if_pos hc] at e; injection e with e; rw [← e]; exact hy
  ·rw [if_neg hc] at e; exact h.mem j q u e
 ·by_cases hd:q=j
  ·subst hd; rw [idT_self] at e ⊢; exact e
  ·rw [idT_ne hd] at e ⊢
   unfold setT
   by_cases hc:j=i∧q=ap y i
   ·obtain ⟨rfl,rfl⟩:=hc; rw [ht] at e; cases e
   ·rw [if_neg hc]; exact e
end Go.Proofs.Cm

namespace Go.Proofs.YtdnmmibchbceeaaGreat
open Go.RowKit
open Go.Proofs
open Go.Proofs.Cm (Tr)
attribute [local irreducible] Go.Calls
def insT (n:Nat) (tr:Tr) (A:Nat × List Nat):Tr:=if A.1<n then Cm.setT tr A.1 (Cm.ap A.2 A.1) A.2 else tr
end Go.Proofs.YtdnmmibchbceeaaGreat

namespace Go.Proofs.YtdnmmibchbceeaaGreat
open Go.RowKit
open Go.Proofs
open Go.Proofs.Cm (Tr)
attribute [local irreducible] Go.Calls Go.wpList
def entP (n:Nat) (tr:Tr) (i p:Nat):List (List Nat):=(List.range i).flatMap (fun j=>(List.range n).filterMap (tr j))++(List.range p).filterMap (tr i)
def ents (n:Nat) (tr:Tr):List (List Nat):=(List.range n).flatMap (fun j=>(List.range n).filterMap (tr j))
theorem entP_row (n:Nat) (tr:Tr) (i:Nat):entP n tr i n=entP n tr (i+1) 0:=by
 unfold entP;rw [List.range_succ,List.flatMap_append];simp
theorem entP_all (n:Nat) (tr:Tr):entP n tr n 0=ents n tr:=by
 unfold entP ents; simp
theorem filterMap_len {α β:Type} (f:α→Option β):∀ l:List α,(l.filterMap f).length≤l.length
 | []=>Nat.le_refl _
 | a :: l=>by
  have:=filterMap_len f l
  cases h:f a with
  | none=>rw [List.filterMap_cons_none h]; simp; omega
  | some b=>rw [List.filterMap_cons_some h]; simp; omega
theorem entP_len (n:Nat) (tr:Tr):∀ i p,(entP n tr i p).length≤i*n+p
 | 0,p=>by
  have:=filterMap_len (tr 0) (List.range p);unfold entP; simp at this ⊢; exact this
 | i+1,p=>by
  have h1:=entP_len n tr i n;rw [entP_row] at h1;have h2:=filterMap_len (tr (i+1)) (List.range p);rw [List.length_range] at h2
  have h3:(entP n tr (i+1) p).length=(entP n tr (i+1) 0).length+((List.range p).filterMap (tr (i+1))).length:=by
   unfold entP; simp
  have h4:(i+1)*n=i*n+n:=Nat.succ_mul i n;omega
structure RowF (F:Nat→Prop) (B:Nat) (W:World) (v:Value) (l:List (List Nat)):Prop where
 size:B≤W.heap.size
 own:∃ us,W.ownsRow B 30 1 v l.length us∧Rg.FElts F W us (l.map Ma.ofN)
theorem RowF.nil (F:Nat→Prop) {B:Nat} {W:World} (h:B≤W.heap.size):RowF F B W (.slice none 0 0) []:=⟨h,[],World.ownsRow_nil _ _ _ _,Rg.FElts.nil _ _⟩
theorem RowF.below {l:List (List Nat)} (h:RowF F B W v l) (hb:Below W.heap.size W W'):RowF F B W' v l:=by
 obtain ⟨us,h1,h2⟩:=h.own;exact ⟨Nat.le_trans h.size hb.size,us,Rg.row_below h1 hb,h2.kp (M:=fun _=>False) (Rg.Kp.of_below hb) (fun _ _=>id)⟩
theorem RowF.shape {l:List (List Nat)} (h:RowF F B W v l):∃ a c,v=.slice a l.length c:=by
 obtain ⟨us,h1,_⟩:=h.own;exact Rg.row_shape h1
theorem RowF.pushK {l:List (List Nat)} (h:RowF F B W v l) (hF:∀ k,F k→k<B) {x:List Nat} (hu:FP F W u x) (hs:∃ a m c,u=.slice a m c) (hn:l.length<1000000) (ty:TypeId) :
  ∃ a c X,(Builtin.append_ #[22,22] ty #[v,.slice (some ⟨W.heap.size,0,none⟩) 1 1]).run Tryz.prog (W.alloc (.cells #[u] 30))=.ok (.slice a (l.length+1) c) X∧RowF F B X (.slice a (l.length+1) c) (l++[x])∧(∀ {B':Nat} {W0:World},B'≤B→Below B' W0 W→Below B' W0 X)∧Rg.Kp (fun k=>v.ownBlock=some k) W X:=by
 obtain ⟨us,h1,h2⟩:=h.own;obtain ⟨a0,m0,c0,rfl⟩:=hs;have hb:Below W.heap.size W (W.alloc (.cells #[.slice a0 m0 c0] 30)):=(Below.refl _ _).alloc (Nat.le_refl _) _;obtain ⟨v',X,r1,r2,r3,r4,a,c,rfl⟩:=app_run (P:=Tryz.prog) slPerms ty (Rg.row_below h1 hb) (Nat.le_trans h.size hb.size) W.heap.size 1 (u:=.slice a0 m0 c0) (by rw [Rg.cellNew]; rfl) rfl hn;have hk:Rg.Kp (fun k=>v.ownBlock=some k) W X:=Rg.Kp.trans (M:=fun k=>v.ownBlock=some k) ((Rg.Kp.of_below hb).weak fun _=>False.elim) (Rg.Kp.of_grown r3 fun _ e=>e) (fun _ _ e=>e)
 have hg:∀ k,F k→¬ v.ownBlock=some k:=fun k g e=>by have:=hF k g; have:=(h1.lt k e).1; omega
 refine ⟨a,c,X,r1,⟨Nat.le_trans h.size hk.size,us++[.slice a0 m0 c0],by rw [List.length_append]; exact r2,by rw [List.map_append]; exact FElts.snoc (h2.kp hk hg) (Rg.FI.kp hu hk hg)⟩,fun {B' W0} hB' hb0=>?_,hk⟩;refine (hb0.trans ⟨hk.os,hk.tape,hk.output,hk.size,fun k hk'=>hk.block k ?_ fun e=>?_⟩)
 ·have:=h.size; omega
 ·have:=(h1.lt k e).1; omega
theorem RowF.push {l:List (List Nat)} (h:RowF F B W v l) (hF:∀ k,F k→k<B) {x:List Nat} (hu:FP F W u x) (hs:∃ a m c,u=.slice a m c) (hn:l.length<1000000) (ty:TypeId) :
  ∃ a c X,(Builtin.append_ #[22,22] ty #[v,.slice (some ⟨W.heap.size,0,none⟩) 1 1]).run Tryz.prog (W.alloc (.cells #[u] 30))=.ok (.slice a (l.length+1) c) X∧RowF F B X (.slice a (l.length+1) c) (l++[x])∧(∀ {B':Nat} {W0:World},B'≤B→Below B' W0 W→Below B' W0 X):=by
 obtain ⟨a,c,X,r1,r2,r3,_⟩:=h.pushK hF hu hs hn ty;exact ⟨a,c,X,r1,r2,r3⟩
end Go.Proofs.YtdnmmibchbceeaaGreat

namespace Go.Proofs.YtdnmmibchbceeaaGreat
open Go.Proofs
open Go.Proofs.Cm (Tr TabOk Gr Gd Sd idT sfP)
theorem nodup_le {α:Type} [DecidableEq α]:∀ {l m:List α},l.Nodup→(∀ x∈l,x∈m)→l.length≤m.length
 | [],_,_,_=>Nat.zero_le _
 | a :: l,m,nd,h=>by
  have ha:=h a (List.mem_cons_self ..);have h1:=nodup_le (l:=l) (m:=m.erase a) (List.nodup_cons.1 nd).2 (fun x hx=>(List.mem_erase_of_ne (fun e:x=a=>(List.nodup_cons.1 nd).1 (by rw [← e]; exact hx))).2 (h x (List.mem_cons_of_mem _ hx)));rw [List.length_erase_of_mem ha] at h1;have h2:=List.length_pos_of_mem ha;simp only [List.length_cons]; omega
theorem mem_ents {tr:Tr} {x:List Nat}:x∈ents n tr↔∃ i p,i<n∧p<n∧tr i p=some x:=by
 unfold ents;simp only [List.mem_flatMap,List.mem_range,List.mem_filterMap];exact ⟨fun ⟨i,hi,p,hp,e⟩=>⟨i,p,hi,hp,e⟩,fun ⟨i,p,hi,hp,e⟩=>⟨i,hi,p,hp,e⟩⟩
theorem tab_inj {gs:List Nat→Prop} {tr:Tr} (h:TabOk n gs tr) {i p:Nat} {u:List Nat} (h1:tr i p=some u) (h2:tr j q=some u):i=j∧p=q:=by
 have key:∀ {i p j q:Nat},tr i p=some u→tr j q=some u→¬ i<j:=fun {i p j q} h1 h2 hlt=>by
  have hne:p≠i:=fun e=>by subst e; rw [h.diag] at h1; cases h1
  have hne2:q≠j:=fun e=>by subst e; rw [h.diag] at h2; cases h2
  have a1:=h.rp.at_ i p u (Nat.zero_le _) (h.lt i p u h1).1 (by rw [Cm.idT_ne hne]; exact h1);have a2:=h.rp.fx j q u (Nat.zero_le _) (h.lt j q u h2).1 (by rw [Cm.idT_ne hne2]; exact h2) i hlt;exact hne (a1.symm.trans a2)
 have e:i=j:=by
  rcases Nat.lt_trichotomy i j with h3 | h3 | h3
  ·exact absurd h3 (key h1 h2)
  ·exact h3
  ·exact absurd h3 (key h2 h1)
 subst e
 have hne:p≠i:=fun e=>by subst e; rw [h.diag] at h1; cases h1
 have hne2:q≠i:=fun e=>by subst e; rw [h.diag] at h2; cases h2
 have a1:=h.rp.at_ i p u (Nat.zero_le _) (h.lt i p u h1).1 (by rw [Cm.idT_ne hne]; exact h1);have a2:=h.rp.at_ i q u (Nat.zero_le _) (h.lt i q u h2).1 (by rw [Cm.idT_ne hne2]; exact h2);exact ⟨rfl,a1.symm.trans a2⟩
theorem ents_nodup {gs:List Nat→Prop} {tr:Tr} (h:TabOk n gs tr):(ents n tr).Nodup:=by
 unfold ents List.Nodup;rw [List.pairwise_flatMap];refine ⟨fun i _=>?_,?_⟩
 ·rw [List.pairwise_filterMap]
  refine List.Pairwise.imp (fun {a b} hab x hx y hy e=>?_) (List.nodup_range (n:=n));subst e;exact hab (tab_inj h hx hy).2
 ·refine List.Pairwise.imp (fun {a b} hab x hx y hy e=>?_) (List.nodup_range (n:=n))
  subst e;rw [List.mem_filterMap] at hx hy;obtain ⟨p,_,hp⟩:=hx;obtain ⟨q,_,hq⟩:=hy;exact hab (tab_inj h hp hq).1
theorem tab_gd {gs:List Nat→Prop} {tr:Tr} (h:TabOk n gs tr) {i p:Nat} {u:List Nat} (h1:tr i p=some u):Gd n u:=by
 have hne:p≠i:=fun e=>by subst e; rw [h.diag] at h1; cases h1
 exact h.rp.gd i p u (Nat.zero_le _) (h.lt i p u h1).1 (by rw [Cm.idT_ne hne]; exact h1)
theorem tab_gr {gs:List Nat→Prop} {tr:Tr} (h:TabOk n gs tr) {i p:Nat} {u:List Nat} (h1:idT n tr i p=some u):Gr n gs u:=by
 by_cases e:p=i
 ·subst e; rw [Cm.idT_self] at h1; injection h1 with h1; rw [← h1]; exact .one
 ·rw [Cm.idT_ne e] at h1; exact h.mem i p u h1
theorem tab_ins {gs:List Nat→Prop} (hg:∀ s,gs s→Gd n s) {tr:Tr} (h:TabOk n gs tr) {x:List Nat} (hx:Gr n gs x) :
  TabOk n gs (insT n tr (sfP n (idT n tr) n x))∧(∀ i p u,idT n tr i p=some u→idT n (insT n tr (sfP n (idT n tr) n x)) i p=some u)∧Sd n (idT n (insT n tr (sfP n (idT n tr) n x))) n x ∧
   ((ents n (insT n tr (sfP n (idT n tr) n x))).length≤(ents n tr).length→insT n tr (sfP n (idT n tr) n x)=tr):=by
 have gx:=(Gr.isG hg).gd x hx;obtain ⟨a1,_,a3,a4,a5⟩:=Cm.sfP_all h.rp (Nat.le_refl n) (by omega) gx (fun j hj=>absurd hj (by omega));have a6:=Cm.sfP_mem (tr:=idT n tr) (Gr.isG hg) (d:=n) (x:=x) (Nat.le_refl n) (fun i p u _ _ e=>tab_gr h e) hx;have a7:=fun tr' (hm:∀ i p u,idT n tr i p=some u→idT n tr' i p=some u) hs=>Cm.sfP_back (n:=n) (tr:=idT n tr) (tr':=idT n tr') (d:=n) (x:=x) (Nat.le_refl n) (fun i p u _=>hm i p u) hs;generalize sfP n (idT n tr) n x=A at *;obtain ⟨i,y⟩:=A;simp only at a1 a3 a4 a5 a6 a7;unfold insT
 by_cases hi:i<n
 ·simp only [if_pos hi]
  obtain ⟨b1,b2⟩:=h.put hi a3 a4 a6 (a5 hi)
  have hne:Cm.ap y i≠i:=fun e=>by have:=a5 hi; rw [e,Cm.idT_self] at this; cases this
  have hy:Cm.setT tr i (Cm.ap y i) y i (Cm.ap y i)=some y:=if_pos ⟨rfl,rfl⟩
  have hyid:idT n (Cm.setT tr i (Cm.ap y i) y) i (Cm.ap y i)=some y:=by rw [Cm.idT_ne hne]; exact hy
  refine ⟨b1,b2,a7 _ b2 ?_,fun hlen=>?_⟩
  ·have h1:n - i=(n - (i+1))+1:=by omega
   have hyS:=Cm.Sd.entry b1.rp hi hyid;have h2:=(Cm.Sd.up (k:=i) (d:=n - i) b1.rp (by omega) (by omega) a3 (by rw [show n - (n - i)=i by omega]; exact a4)).1;rw [show n - i+i=n by omega] at h2;exact h2 hyS
  ·exfalso
   have hn:y∉ents n tr:=fun hm=>by
    obtain ⟨j,q,hj,hq,e⟩:=mem_ents.1 hm
    have e2:Cm.setT tr i (Cm.ap y i) y j q=some y:=by
     by_cases hc:j=i∧q=Cm.ap y i
     ·exact if_pos hc
     ·unfold Cm.setT; rw [if_neg hc]; exact e
    obtain ⟨rfl,rfl⟩:=tab_inj b1 e2 hy;have:=a5 hi;rw [Cm.idT_ne hne,e] at this
    cases this
   have h1:=nodup_le (l:=y :: ents n tr) (m:=ents n (Cm.setT tr i (Cm.ap y i) y)) (List.nodup_cons.2 ⟨hn,ents_nodup h⟩) (fun z hz=>by
    rcases List.mem_cons.1 hz with rfl | hz
    ·exact mem_ents.2 ⟨i,_,hi,Cm.ap_lt a3 hi,hy⟩
    ·obtain ⟨j,q,hj,hq,e⟩:=mem_ents.1 hz
     refine mem_ents.2 ⟨j,q,hj,hq,?_⟩
     have hne3:q≠j:=fun e3=>by subst e3; rw [h.diag] at e; cases e
     have:=b2 j q z (by rw [Cm.idT_ne hne3]; exact e)
     rwa [Cm.idT_ne hne3] at this)
   simp only [List.length_cons] at h1;omega
 ·simp only [if_neg hi]
  obtain rfl:i=n:=by omega
  refine ⟨h,fun _ _ _ e=>e,a7 _ (fun _ _ _ e=>e) ?_,fun _=>trivial⟩;rw [Nat.sub_self];show y=_;exact Cm.Fx.all a3 a4
structure LE (n:Nat) (gs:List Nat→Prop) (tr:Tr) (l:List (List Nat)):Prop where
 ok:TabOk n gs tr
 sub:∀ x∈l,x∈ents n tr
 all:∀ x∈ents n tr,x∈l
 nd:l.Nodup
 gn:∀ s,gs s→Sd n (idT n tr) n s
theorem LE.len {gs:List Nat→Prop} {tr:Tr} {l:List (List Nat)} (h:LE n gs tr l):l.length≤n*n:=by
 have h1:=nodup_le h.nd h.sub;have h2:=entP_len n tr n 0;rw [entP_all] at h2;omega
theorem LE.gr {gs:List Nat→Prop} {tr:Tr} {l:List (List Nat)} (h:LE n gs tr l) {x:List Nat} (hx:x∈l):Gr n gs x∧Gd n x:=by
 obtain ⟨i,p,_,_,e⟩:=mem_ents.1 (h.sub x hx);exact ⟨h.ok.mem i p x e,tab_gd h.ok e⟩
theorem LE.start {gs:List Nat→Prop} {tr:Tr} (h:TabOk n gs tr) (hg:∀ s,gs s→Sd n (idT n tr) n s):LE n gs tr (ents n tr):=⟨h,fun _ hx=>hx,fun _ hx=>hx,ents_nodup h,hg⟩
def freshL (n:Nat) (tr:Tr) (l:List (List Nat)):List (List Nat):=(ents n tr).filter fun x=>decide (x∉l)
theorem LE.more {gs:List Nat→Prop} {tr tr':Tr} {l:List (List Nat)} (h:LE n gs tr l) (h':TabOk n gs tr') (hm:∀ i p u,idT n tr i p=some u→idT n tr' i p=some u):LE n gs tr' (l++freshL n tr' l):=by
 have hs:∀ x∈ents n tr,x∈ents n tr':=fun x hx=>by
  obtain ⟨i,p,hi,hp,e⟩:=mem_ents.1 hx
  have hne:p≠i:=fun e3=>by subst e3; rw [h.ok.diag] at e; cases e
  refine mem_ents.2 ⟨i,p,hi,hp,?_⟩;have:=hm i p x (by rw [Cm.idT_ne hne]; exact e)
  rwa [Cm.idT_ne hne] at this
 refine ⟨h',fun x hx=>?_,fun x hx=>?_,?_,fun s hs=>Sd.mono (fun i p u _=>hm i p u) (h.gn s hs)⟩
 ·rcases List.mem_append.1 hx with hx | hx
  ·exact hs x (h.sub x hx)
  ·exact (List.mem_filter.1 hx).1
 ·by_cases hl:x∈l
  ·exact List.mem_append_left _ hl
  ·exact List.mem_append_right _ (List.mem_filter.2 ⟨hx,by simp [hl]⟩)
 ·refine List.nodup_append.2 ⟨h.nd,List.Pairwise.filter _ (ents_nodup h'),fun a ha b hb e=>?_⟩
  subst e;have:=(List.mem_filter.1 hb).2;simp [ha] at this
def PrS (n:Nat) (tr:Tr) (l:List (List Nat)) (a b:Nat):Prop:=Sd n (idT n tr) n (Ma.mulN (l.getD a []) (l.getD b []))
theorem getD_app {l m:List (List Nat)} {a:Nat} (h:a<l.length):(l++m).getD a []=l.getD a []:=by
 rw [List.getD_eq_getElem?_getD,List.getD_eq_getElem?_getD,List.getElem?_append_left h]
theorem PrS.more {tr tr':Tr} {l m:List (List Nat)} {a b:Nat} (h:PrS n tr l a b) (ha:a<l.length) (hb:b<l.length) (hm:∀ i p u,idT n tr i p=some u→idT n tr' i p=some u):PrS n tr' (l++m) a b:=by
 unfold PrS;rw [getD_app ha,getD_app hb];exact Sd.mono (fun i p u _=>hm i p u) h
theorem LE.done {gs:List Nat→Prop} (hg:∀ s,gs s→Gd n s) {tr:Tr} {l:List (List Nat)} (h:LE n gs tr l) (hp:∀ a b,a<l.length→b<l.length→PrS n tr l a b):Cm.IsTr n (Gr n gs) (idT n tr):=by
 have hin:∀ i p u,i<n→p≠i→idT n tr i p=some u→∃ a,a<l.length∧l.getD a []=u:=fun i p u hi hne e=>by
  rw [Cm.idT_ne hne] at e;have h1:=h.all u (mem_ents.2 ⟨i,p,hi,(h.ok.lt i p u e).2,e⟩);obtain ⟨a,ha,e2⟩:=List.getElem_of_mem h1;exact ⟨a,ha,by rw [List.getD_eq_getElem?_getD,List.getElem?_eq_getElem ha]; exact e2⟩
 refine Cm.tab_isTr h.ok.rp hg h.gn (fun i p u hi e=>tab_gr h.ok e) fun i p u j q v hi hj e1 e2=>?_;have gu:=h.ok.rp.gd i p u (Nat.zero_le _) hi e1;have gv:=h.ok.rp.gd j q v (Nat.zero_le _) hj e2
 by_cases c1:p=i
 ·subst c1
  rw [Cm.idT_self] at e1
  injection e1 with e1
  subst e1;rw [Cm.one_mul gv];exact Cm.Sd.entry h.ok.rp hj e2
 ·by_cases c2:q=j
  ·subst c2
   rw [Cm.idT_self] at e2
   injection e2 with e2
   subst e2;rw [Cm.mul_one gu];exact Cm.Sd.entry h.ok.rp hi e1
  ·obtain ⟨a,ha,ea⟩:=hin i p u hi c1 e1
   obtain ⟨b,hb,eb⟩:=hin j q v hj c2 e2;have:=hp a b ha hb;unfold PrS at this
   rwa [ea,eb] at this
end Go.Proofs.YtdnmmibchbceeaaGreat

namespace Go.Proofs.YtdnmmibchbceeaaGreat
open Go.RowKit
open Go.Proofs
open Go.Proofs.Cm (Tr)
theorem appL5 {P:Program} {t e:TypeId} (T:Rg.SlT P t e z bytes) (ty:TypeId) {xs us:List Value} (hown:X.ownsRow B e 1 v n xs) (hX:B≤X.heap.size)
  (hus:Rg.Vals X xv us) (h1:∀ u∈us,u.oneCell'=true) (hn:n+us.length<1000000000) :
  ∃ v' X',(Builtin.append_ #[t,t] ty #[v,xv]).run P X=.ok v' X'∧X'.ownsRow B e 1 v' (n+us.length) (xs++us)∧X.grownBy X' v.ownBlock∧(v'.ownBlock=v.ownBlock∨v'.ownBlock=some X.heap.size):=by
 obtain ⟨i0,hi,hz0,hz1,hz2⟩:=info_parts T.info;obtain ⟨ad,cap,rfl,q2,q3,q4,q5⟩:=hus
 cases ad with
 | none =>
  have h0:us=[]:=by
   cases us with
   | nil=>rfl
   | cons u r=>obtain ⟨b,o,e1,_⟩:=q5 (by simp); cases e1
  subst h0;exact ⟨v,X,Rg.append_none (P:=P) (w:=X) B t ty e i0 1 cap T.ty hi v n xs hown,by simpa using hown,⟨rfl,rfl,rfl,Nat.le_refl _,fun _ _ _=>rfl⟩,.inl rfl⟩
 | some ad =>
  obtain ⟨v',w',hr,h2,h3,h4,h5⟩:=run_append_own_at (P:=P) X B t ty e i0 z 1 bytes T.ty hi hz0 hz1 hz2 T.zc (by decide) v n xs hown ad us.length cap us (by omega) (fun j u hu=>by
   have hj:=(List.getElem?_eq_some_iff.1 hu).1;obtain ⟨b,o,e1,e2,e3⟩:=q5 (by omega);simp at e1; subst e1
   rw [Addr.add_mid,e3 j hj,← hu,List.getElem?_eq_getElem hj]) h1 (by unfold maxLen; omega) (by have:(n+us.length)*bytes≤1000000000*64:=Nat.mul_le_mul (by omega) T.small; omega) hX
  exact ⟨v',w',hr,h2,h3,h5⟩
structure RowG (F M:Nat→Prop) (W:World) (v:Value) (l:List (List Nat)):Prop where
 own:∃ B us,B≤W.heap.size∧W.ownsRow B 30 1 v l.length us∧Rg.FElts F W us (l.map Ma.ofN)
 off:∀ k,v.ownBlock=some k→¬ F k∧¬ M k
theorem RowF.g {l:List (List Nat)} (h:RowF F B W v l) (hF:∀ k,F k→k<B) (hM:∀ k,M k→k<B):RowG F M W v l:=by
 obtain ⟨us,h1,h2⟩:=h.own;refine ⟨⟨B,us,h.size,h1,h2⟩,fun k e=>?_⟩;have:=(h1.lt k e).1;exact ⟨fun g=>by have:=hF k g; omega,fun g=>by have:=hM k g; omega⟩
theorem RowG.lt {F M:Nat→Prop} {W:World} {v:Value} {l:List (List Nat)} (h:RowG F M W v l):∀ k,v.ownBlock=some k→k<W.heap.size:=fun k e=>by
 obtain ⟨B,us,h0,h1,h2⟩:=h.own;exact (h1.lt k e).2
theorem RowG.up {l:List (List Nat)} (h:RowG F M W v l) (hb:Below W.heap.size W W'):RowG (Fup F W W') M W' v l:=by
 obtain ⟨B,us,h0,h1,h2⟩:=h.own;refine ⟨⟨B,us,Nat.le_trans h0 hb.size,Rg.row_below h1 hb,(h2.kp (M:=fun _=>False) (Rg.Kp.of_below hb) (fun _ _=>id)).mono fun _=>.inl⟩,fun k e=>⟨fun g=>?_,(h.off k e).2⟩⟩;have:=h.lt k e
 rcases g with g | g
 ·exact (h.off k e).1 g
 ·omega
theorem RowG.shape {l:List (List Nat)} (h:RowG F M W v l):∃ a c,v=.slice a l.length c:=by
 obtain ⟨B,us,h0,h1,h2⟩:=h.own;exact Rg.row_shape h1
theorem RowG.at {l:List (List Nat)} (h:RowG F M W v l) {i:Nat} (hi:i<l.length):∃ g c u,v=.slice (some ⟨g,0,none⟩) l.length c∧CL W g (0+i) u∧FP F W u l[i]:=by
 obtain ⟨B,us,h0,h1,h2⟩:=h.own;obtain ⟨g,c,u,e1,e2,e3,e4⟩:=row_of h1 hi;obtain ⟨hu,rfl⟩:=List.getElem?_eq_some_iff.1 e3;have:=h2.2 i hu (by rw [List.length_map]; exact hi);rw [List.getElem_map] at this;exact ⟨g,c,us[i],e1,⟨e2,e4⟩,this⟩
theorem RowG.app {F M:Nat→Prop} {W:World} {v v2:Value} {l m:List (List Nat)} {B2:Nat} (h:RowG F M W v l) (h2:RowF F B2 W v2 m) (hF:∀ k,F k→k<W.heap.size) (hM:∀ k,M k→k<W.heap.size) (hn:l.length+m.length<1000000) (ty:TypeId) :
  ∃ a c X,(Builtin.append_ #[22,22] ty #[v,v2]).run Tryz.prog W=.ok (.slice a (l.length+m.length) c) X∧RowG F M X (.slice a (l.length+m.length) c) (l++m)∧Rg.Kp (fun k=>v.ownBlock=some k) W X:=by
 obtain ⟨B,us,h0,h1,h3⟩:=h.own;obtain ⟨us2,g1,g2⟩:=h2.own
 have hl:us2.length=m.length:=by have:=g2.1; rwa [List.length_map] at this
 obtain ⟨v',X,r1,r2,r3,r4⟩:=appL5 (P:=Tryz.prog) slPerms ty h1 h0 (Rg.Vals.of_row g1 (by omega)) g2.oneCell (by omega);have hk:Rg.Kp (fun k=>v.ownBlock=some k) W X:=Rg.Kp.of_grown r3 fun _ e=>e;rw [hl] at r2;obtain ⟨a,c,rfl⟩:=Rg.row_shape r2;have hg:∀ k,F k→¬ v.ownBlock=some k:=fun k g e=>(h.off k e).1 g;refine ⟨a,c,X,r1,⟨⟨B,us++us2,Nat.le_trans h0 hk.size,by rw [List.length_append]; exact r2,by rw [List.map_append]; exact (h3.kp hk hg).app (g2.kp hk hg)⟩,fun k e=>?_⟩,hk⟩
 rcases r4 with r4 | r4
 ·exact h.off k (by rw [← r4]; exact e)
 ·rw [r4] at e
  injection e with e
  subst e;exact ⟨fun g=>by have:=hF _ g; omega,fun g=>by have:=hM _ g; omega⟩
end Go.Proofs.YtdnmmibchbceeaaGreat

namespace Go.Proofs.YtdnmmibchbceeaaGreat
open Go.RowKit
open Go.Proofs
open Go.Proofs.Cm (Tr)
attribute [local irreducible] Go.Calls
theorem RowF.at {l:List (List Nat)} (h:RowF F B W v l) {i:Nat} (hi:i<l.length):∃ g c u,v=.slice (some ⟨g,0,none⟩) l.length c∧CL W g (0+i) u∧FP F W u l[i]:=by
 obtain ⟨us,h1,h2⟩:=h.own;obtain ⟨g,c,u,e1,e2,e3,e4⟩:=row_of h1 hi;obtain ⟨hu,rfl⟩:=List.getElem?_eq_some_iff.1 e3;have:=h2.2 i hu (by rw [List.length_map]; exact hi);rw [List.getElem_map] at this;exact ⟨g,c,us[i],e1,⟨e2,e4⟩,this⟩
end Go.Proofs.YtdnmmibchbceeaaGreat

namespace Go.Proofs.YtdnmmibchbceeaaGreat
open Go.RowKit
open Go.Proofs
open Go.Proofs.Cm (Tr TabOk)
attribute [local irreducible] Go.Calls Go.wpList
theorem RowF.mono {F F':Nat→Prop} {B:Nat} {W:World} {v:Value} {l:List (List Nat)} (h:RowF F B W v l) (hF:∀ k,F k→F' k):RowF F' B W v l:=by
 obtain ⟨us,h1,h2⟩:=h.own;exact ⟨h.size,us,h1,h2.mono hF⟩
theorem RowG.rows {l:List (List Nat)} (h:RowG F M W v l) (hl:l.length≤1000000000):Rg.Rows W v (l.map Ma.ofN):=by
 obtain ⟨B,us,h0,h1,h2⟩:=h.own;have e:us.length=(l.map Ma.ofN).length:=h2.1;exact Rg.Rows.of_row h1 hl e fun i a b=>(h2.2 i a b).ints
def PP (n:Nat) (tr:Tr) (l:List (List Nat)) (i k m:Nat):Prop:=(∀ a b,a<i→b<i→PrS n tr l a b)∧(∀ b,b<k→PrS n tr l i b∧PrS n tr l b i)∧(0<m→PrS n tr l i k)∧(1<m→PrS n tr l k i)
theorem PP.start {tr:Tr} {l:List (List Nat)}:PP n tr l 0 0 0:=⟨fun _ _ h=>absurd h (Nat.not_lt_zero _),fun _ h=>absurd h (Nat.not_lt_zero _),fun h=>absurd h (Nat.lt_irrefl _),fun h=>absurd h (by decide)⟩
theorem PP.more {n:Nat} {tr tr':Tr} {l m':List (List Nat)} {i k m:Nat} (h:PP n tr l i k m) (hi:i<l.length) (hk:k≤i) (hm:∀ i p u,Cm.idT n tr i p=some u→Cm.idT n tr' i p=some u):PP n tr' (l++m') i k m :=
 ⟨fun a b ha hb=>(h.1 a b ha hb).more (by omega) (by omega) hm,fun b hb=>⟨(h.2.1 b hb).1.more hi (by omega) hm,(h.2.1 b hb).2.more (by omega) hi hm⟩,fun e=>(h.2.2.1 e).more hi (by omega) hm,fun e=>(h.2.2.2 e).more (by omega) hi hm⟩
theorem PP.step0 {tr:Tr} {l:List (List Nat)} {i:Nat} (h:PP n tr l i k 0) (hp:PrS n tr l i k):PP n tr l i k 1:=⟨h.1,h.2.1,fun _=>hp,fun e=>absurd e (by decide)⟩
theorem PP.step1 {tr:Tr} {l:List (List Nat)} {i:Nat} (h:PP n tr l i k 1) (hp:PrS n tr l k i):PP n tr l i k 2:=⟨h.1,h.2.1,fun _=>h.2.2.1 (by decide),fun _=>hp⟩
theorem PP.next {tr:Tr} {l:List (List Nat)} {i:Nat} (h:PP n tr l i k 2):PP n tr l i (k+1) 0 :=
 ⟨h.1,fun b hb=>by
  by_cases e:b=k
  ·subst e; exact ⟨h.2.2.1 (by decide),h.2.2.2 (by decide)⟩
  ·exact h.2.1 b (by omega),fun e=>absurd e (by decide),fun e=>absurd e (by decide)⟩
theorem PP.row {tr:Tr} {l:List (List Nat)} {i:Nat} (h:PP n tr l i (i+1) 0):PP n tr l (i+1) 0 0 :=
 ⟨fun a b ha hb=>by
  by_cases e:a=i
  ·subst e; exact (h.2.1 b hb).1
  ·by_cases e2:b=i
   ·subst e2; exact (h.2.1 a ha).2
   ·exact h.1 a b (by omega) (by omega),fun _ e=>absurd e (by omega),fun e=>absurd e (by decide),fun e=>absurd e (by decide)⟩
theorem getD_li {l:List (List Nat)} {i:Nat} (h:i<l.length):l.getD i []=l[i]:=by rw [List.getD_eq_getElem?_getD,List.getElem?_eq_getElem h]; rfl
theorem LE.le (hn2:n≤64) {gs:List Nat→Prop} {tr:Tr} {l:List (List Nat)} (h:LE n gs tr l):l.length≤4096:=by
 have h1:=h.len;have h2:n*n≤64*64:=Nat.mul_le_mul hn2 hn2;omega

theorem OwI.shape (h:OwI B W v l):∃ a c,v=.slice a l.length c:=Rg.row_shape h.own
theorem OwI.nil (B:Nat) (W:World):OwI B W (.slice none 0 0) []:=⟨World.ownsRow_nil _ _ _ _⟩
theorem OwI.push (h:OwI B W v l) (hB:B≤W.heap.size) (x:Int) (hn:l.length<1000000) (ty:TypeId) :
  ∃ a c X,(Builtin.append_ #[25,25] ty #[v,.slice (some ⟨W.heap.size,0,none⟩) 1 1]).run Tryz.prog (W.alloc (.cells #[.int .i64 x] 3))=.ok (.slice a (l.length+1) c) X∧OwI B X (.slice a (l.length+1) c) (l++[x])∧(∀ {B':Nat} {W0:World},B'≤B→Below B' W0 W→Below B' W0 X):=by
 have hb:Below W.heap.size W (W.alloc (.cells #[.int .i64 x] 3)):=(Below.refl _ _).alloc (Nat.le_refl _) _;obtain ⟨v',X,r1,r2,r3,r4,a,c,rfl⟩:=app_run (P:=Tryz.prog) slInts ty (Rg.row_below h.own hb) (Nat.le_trans hB hb.size) W.heap.size 1 (u:=.int .i64 x) (by rw [Rg.cellNew]; rfl) rfl hn;refine ⟨a,c,X,r1,⟨by rw [List.length_append,List.map_append]; exact r2⟩,fun {B' W0} hB' hb0=>?_⟩;exact (hb0.alloc (Nat.le_trans hB' hB) _).grown r3 (Nat.le_trans (Nat.le_trans hB' hB) hb.size) (fun j hj=>Nat.le_trans hB' ((Rg.row_below h.own hb).lt j hj).1)

theorem OwI.up (h:OwI B W v l) (hb:Below W.heap.size W W'):OwI B W' v l:=h.below hb
theorem OwI.at {a:Option Addr} {c:Nat} {l:List Nat} (h:OwI B W (.slice a m c) (Ma.ofN l)) (hk:k<l.length):∃ g,a=some ⟨g,0,none⟩∧CL W g (0+k) (.int .i64 ((l[k]:Nat):Int)):=by
 obtain ⟨g,c',u,e1,e2,e3,e4⟩:=row_of h.own (k:=k) (by rw [Ma.len_ofN]; exact hk)
 injection e1 with e1 _ _
 refine ⟨g,e1,?_,e4⟩;rw [e2,← e3];simp [Ma.ofN,List.getElem?_eq_getElem hk]
end Go.Proofs.YtdnmmibchbceeaaGreat

namespace Go.Proofs.YtdnmmibchbceeaaGreat
open Go.RowKit
open Go.Proofs
open Go.Proofs.Ob
open Go.Proofs.Cm (Tr TabOk)
attribute [local irreducible] Go.Calls Go.wpList
theorem FRows2.mono {F F':Nat→Prop} {w:World} {v:Value} {lll:List (List (List Int))} (h:FRows2 F w v lll) (hF:∀ k,F k→F' k):FRows2 F' w v lll:=by
 obtain ⟨us,h1,h2⟩:=h;exact ⟨us,h1.mono hF,FElts2.mono h2 hF⟩
theorem ChAns.shape {w:World} {d:Int} {ll:List (List Int)} {cv:Value} {c:Int} (h:ChAns w d ll cv c):∃ e a n k a' n' k',cv=.agg #[.int .i64 e,.slice a n k,.slice a' n' k']:=by
 rcases h with ⟨_,rfl⟩ | ⟨h0,n,gs,h1,h2,h3,h4,ov,rv,O,R,h5,h6,h7,h8⟩
 ·exact ⟨_,_,_,_,_,_,_,rfl⟩
 ·obtain ⟨oa,oc,rfl,_⟩:=h6.shape
  obtain ⟨ra,rc,rfl⟩:=h7.shape;exact ⟨_,_,_,_,_,_,_,h5⟩
theorem GS.kg {F F':Nat→Prop} {w w':World} {v:Value} {gs:List (List Nat)} (h:GS F w v gs) (hk:KG F w F' w'):GS F' w' v gs:=by
 obtain ⟨a,c,e,h1⟩:=h;refine ⟨a,c,e,fun h0=>?_⟩;obtain ⟨b,o,e2,h2⟩:=h1 h0;refine ⟨b,o,e2,fun k hk2=>?_⟩;obtain ⟨u,h3,h4⟩:=h2 k hk2;exact ⟨u,h3.kg hk,h4.kg hk⟩
theorem GS.at {b o c:Nat} (h:GS F w (.slice (some ⟨b,o,none⟩) n c) gs) (hk:k<gs.length):∃ u,CF F w b (o+k) u∧FP F w u gs[k]:=by
 obtain ⟨a,c',e,h1⟩:=h;obtain ⟨b',o',e2,h2⟩:=h1 (by omega)
 injection e with e3 _ _
 rw [e2] at e3;simp only [Option.some.injEq,Addr.mk.injEq,and_true] at e3;obtain ⟨rfl,rfl⟩:=e3;exact h2 k hk
end Go.Proofs.YtdnmmibchbceeaaGreat
