/- Lemmas and contracts on the way to the statement; no condition of their own beyond those written. -/
import Derived.Test.YtdnmmibchbceeaaGreatXEdtoRe
set_option linter.unusedVariables false
set_option linter.unusedSimpArgs false
set_option maxRecDepth 100000
set_option maxHeartbeats 8000000
variable {w W w' W' w0 X:Go.World} {n B N k mb L m nx j cap D tc base bytes q n₀ gb tk most gc cb:Nat} {v u sv rv ov fv z v1 v2 xv u1 u2 av tv u3 uv:Go.Value} {F M F' F0 M':Nat→Prop} {gs T O A Ks T' Fd:List (List Nat)} {l l1 l2:List Int} {d:Int} {H:List Nat→Prop} {R:List (List (List Nat))} {vs:List Go.Value} {a s:List Nat} {RR:List (List (List Int))} {OO Wd:List (List Int)}
namespace Go.Proofs.YtdnmmibchbceeaaGreat
open Go.RowKit
open Go.Proofs
open Go.Proofs.Ob
open Go.Proofs.Cm (Gd Gr IsChain ap)
attribute [local irreducible] Go.Calls Go.wpList
abbrev Stp:=Int × Int × Int
abbrev rnIn (T:List (List Nat)) (i:Int):Prop:=0≤i∧i<(T.length:Int)
def rnC (T:List (List Nat)) (s:Stp):Int :=
 if s.1≠1∧s.1≠2 then 3 else if ¬ rnIn T s.2.1 then 2 else if s.1=1∧¬ rnIn T s.2.2 then 2 else 0
def rnE (T:List (List Nat)) (s:Stp):List Nat:=if s.1=1 then Ma.mulN (T.getD s.2.1.toNat []) (T.getD s.2.2.toNat []) else Ma.invN (T.getD s.2.1.toNat [])
def rn:List Stp→List (List Nat)→Int × List (List Nat)
 | [],T=>(0,T)
 | s :: l,T=>if rnC T s≠0 then (rnC T s,T) else rn l (T++[rnE T s])
theorem rn_bad {s:Stp} {l:List Stp} (h:rnC T s≠0):rn (s :: l) T=(rnC T s,T):=by rw [rn,if_pos h]
theorem rn_ok {s:Stp} {l:List Stp} (h:rnC T s=0):rn (s :: l) T=rn l (T++[rnE T s]):=by rw [rn,if_neg (fun e=>e h)]
theorem rnC_3 {s:Stp} (h1:s.1≠1) (h2:s.1≠2):rnC T s=3:=by unfold rnC; rw [if_pos ⟨h1,h2⟩]
theorem rnC_a {s:Stp} (h:s.1=1∨s.1=2) (h2:¬ rnIn T s.2.1):rnC T s=2:=by
 unfold rnC; rw [if_neg (fun e=>h.elim e.1 e.2),if_pos h2]
theorem rnC_b {s:Stp} (h:s.1=1) (h2:¬ rnIn T s.2.2):rnC T s=2:=by
 by_cases h3:rnIn T s.2.1
 ·unfold rnC; rw [if_neg (fun e=>e.1 h),if_neg (fun e=>e h3),if_pos ⟨h,h2⟩]
 ·exact rnC_a (.inl h) h3
theorem rnC_m {s:Stp} (h:s.1=1) (h1:rnIn T s.2.1) (h2:rnIn T s.2.2):rnC T s=0:=by
 unfold rnC; rw [if_neg (fun e=>e.1 h),if_neg (fun e=>e h1),if_neg (fun e=>e.2 h2)]
theorem rnC_i {s:Stp} (h:s.1=2) (h1:rnIn T s.2.1):rnC T s=0:=by
 unfold rnC; rw [if_neg (fun e=>e.2 h),if_neg (fun e=>e h1),if_neg (fun e=>by omega)]
theorem rnE_m {s:Stp} {x y:List Nat} (h:s.1=1) (hx:T[s.2.1.toNat]?=some x) (hy:T[s.2.2.toNat]?=some y):rnE T s=Ma.mulN x y:=by
 unfold rnE; rw [if_pos h,List.getD_eq_getElem?_getD,List.getD_eq_getElem?_getD,hx,hy]; rfl
theorem rnE_i {s:Stp} {x:List Nat} (h:s.1=2) (hx:T[s.2.1.toNat]?=some x):rnE T s=Ma.invN x:=by
 unfold rnE; rw [if_neg (by omega),List.getD_eq_getElem?_getD,hx]; rfl
def RnV (d:Int) (ll:List (List Int)) (S:List Stp) (l:List Int) (c:Int):Prop :=
 (Ma.gchk d ll≠0∧c=Ma.gchk d ll∧l=[])∨(Ma.gchk d ll=0∧5000<S.length∧c=4∧l=[]) ∨
 (Ma.gchk d ll=0∧S.length≤5000∧∃ (N:Nat) (gs:List (List Nat)),d=N∧ll=gs.map Ma.ofN∧c=(rn S gs).1 ∧
  ((c≠0∧l=[])∨(c=0∧l=Ma.ofN (if S.length=0 then Ma.oneN N else (rn S gs).2.getD ((rn S gs).2.length - 1) []))))
theorem rn_same {ll:List (List Int)} {S:List Stp} {l':List Int} {c c':Int} {N':Nat} {gs':List (List Nat)} (e1:d=N) (e2:ll=gs.map Ma.ofN) (f1:d=N') (f2:ll=gs'.map Ma.ofN) (a1:c=(rn S gs).1) (b1:c'=(rn S gs').1)
  (a2:(c≠0∧l=[])∨(c=0∧l=Ma.ofN (if S.length=0 then Ma.oneN N else (rn S gs).2.getD ((rn S gs).2.length - 1) []))) (b2:(c'≠0∧l'=[])∨(c'=0∧l'=Ma.ofN (if S.length=0 then Ma.oneN N' else (rn S gs').2.getD ((rn S gs').2.length - 1) []))):l=l'∧c=c':=by
 obtain rfl:N=N':=by omega
 have:=map_ofN_inj (e2.symm.trans f2);subst this;have hc:=a1.trans b1.symm;subst hc;refine ⟨?_,rfl⟩
 rcases a2 with ⟨h0,a2⟩ | ⟨h0,a2⟩ <;> rcases b2 with ⟨g0,b2⟩ | ⟨g0,b2⟩
 ·exact a2.trans b2.symm
 ·exact absurd g0 h0
 ·exact absurd h0 g0
 ·exact a2.trans b2.symm
theorem RnV.uniq {ll:List (List Int)} {S:List Stp} {l':List Int} {c c':Int} (h:RnV d ll S l c) (h':RnV d ll S l' c'):l=l'∧c=c':=by
 rcases h with ⟨a0,a1,a2⟩ | ⟨a0,a3,a1,a2⟩ | ⟨a0,a3,N,gs,e1,e2,a1,a2⟩ <;> rcases h' with ⟨b0,b1,b2⟩ | ⟨b0,b3,b1,b2⟩ | ⟨b0,b3,N',gs',f1,f2,b1,b2⟩ <;>
  first
  | exact absurd b0 a0
  | exact absurd a0 b0
  | omega
  | exact ⟨a2.trans b2.symm,a1.trans b1.symm⟩
  | exact rn_same e1 e2 f1 f2 a1 b1 a2 b2
structure StA (w:World) (v:Value) (S:List Stp):Prop where
 st:∃ a cap,v=.slice a S.length cap∧(0<S.length→∃ b o,a=some ⟨b,o,none⟩∧b<w.heap.size∧∀ i (h:i<S.length),w.cell? ⟨b,o+i*3,none⟩=some (.int .i64 S[i].1)∧w.cell? ⟨b,o+i*3+1,none⟩=some (.int .i64 S[i].2.1)∧w.cell? ⟨b,o+i*3+2,none⟩=some (.int .i64 S[i].2.2))
theorem StA.below {S:List Stp} (h:StA w v S) (hb:Below w.heap.size w w'):StA w' v S:=by
 obtain ⟨a,cap,e,h2⟩:=h.st;refine ⟨a,cap,e,fun h0=>?_⟩;obtain ⟨b,o,e2,hlt,hc⟩:=h2 h0;exact ⟨b,o,e2,Nat.lt_of_lt_of_le hlt hb.size,fun i hi=>⟨(hb.cell (p:=⟨b,o+i*3,none⟩) hlt).trans (hc i hi).1,(hb.cell (p:=⟨b,o+i*3+1,none⟩) hlt).trans (hc i hi).2.1,(hb.cell (p:=⟨b,o+i*3+2,none⟩) hlt).trans (hc i hi).2.2⟩⟩
theorem infoSt:(Tryz.prog.info? 51).map (fun i=>(i.zero,i.size,i.bytes))=some (some (.agg #[.int .i64 0,.int .i64 0,.int .i64 0]),3,24):=by kernel_rfl
theorem szStp:(Tryz.prog.info? 51).map (·.size)=some 3:=by kernel_rfl
theorem run_loadSt {b o:Nat} {x y:Value} (h0:w.cell? ⟨b,o,none⟩=some x) (h1:w.cell? ⟨b,o+1,none⟩=some y) (h2:w.cell? ⟨b,o+2,none⟩=some z):(loadVar 51 ⟨b,o,none⟩).run Tryz.prog w=.ok (.agg #[x,y,z]) w:=by
 obtain ⟨i0,hi,hz0,hz1,hz2⟩:=info_parts infoSt
 have ha0:(⟨b,o,none⟩:Addr).add 0=⟨b,o,none⟩:=by simp [Addr.add]
 have ha1:(⟨b,o,none⟩:Addr).add 1=⟨b,o+1,none⟩:=by simp [Addr.add]
 have ha2:(⟨b,o,none⟩:Addr).add 2=⟨b,o+2,none⟩:=by simp [Addr.add]
 have hg:(isAgg 51).run Tryz.prog w=.ok true w:=by kernel_rfl
 simp [loadVar,hg,sizeOf,typeInfo,hi,hz1,loadCells,loadCellsFrom,load,ha0,ha1,ha2];simp [Sem.run,h0,h1,h2]
theorem TriS.new (w:World) (x y z:Value):Tri (w.alloc (.cells #[x,y,z] 51)) w.heap.size x y z :=
 ⟨by rw [Rg.cellNew]; rfl,by rw [Rg.cellNew]; rfl,by rw [Rg.cellNew]; rfl,frozenNewN _ _ _ 0 _,frozenNewN _ _ _ 0 _,frozenNewN _ _ _ 0 _,by simp⟩
theorem run_storeSt {b:Nat} (x y z:Int) (h:Tri w b u1 u2 u3) :
  (storeVar 51 ⟨b,0,none⟩ (.agg #[.int .i64 x,.int .i64 y,.int .i64 z])).run Tryz.prog w=.ok () (((w.setCell ⟨b,0,none⟩ (.int .i64 x)).setCell ⟨b,1,none⟩ (.int .i64 y)).setCell ⟨b,2,none⟩ (.int .i64 z)):=by
 obtain ⟨i0,hi,hz0,hz1,hz2⟩:=info_parts infoSt
 have g2:(w.setCell ⟨b,0,none⟩ (.int .i64 x)).cell? ⟨b,1,none⟩=some u2:=by
  rw [World.cell?_setCell_other (h:=by intro e; injection e with e1 e2; omega) ..]
  exact h.c1
 have gf:(w.setCell ⟨b,0,none⟩ (.int .i64 x)).frozen? ⟨b,1,none⟩=false:=by rw [World.frozen?_setCell]; exact h.f1
 have g3:((w.setCell ⟨b,0,none⟩ (.int .i64 x)).setCell ⟨b,1,none⟩ (.int .i64 y)).cell? ⟨b,2,none⟩=some u3:=by
  rw [World.cell?_setCell_other (h:=by intro e; injection e with e1 e2; omega) ..,World.cell?_setCell_other (h:=by intro e; injection e with e1 e2; omega) ..]
  exact h.c2
 have gf3:((w.setCell ⟨b,0,none⟩ (.int .i64 x)).setCell ⟨b,1,none⟩ (.int .i64 y)).frozen? ⟨b,2,none⟩=false:=by rw [World.frozen?_setCell,World.frozen?_setCell]; exact h.f2
 have ha0:(⟨b,0,none⟩:Addr).add 0=⟨b,0,none⟩:=by simp [Addr.add]
 have ha1:(⟨b,0,none⟩:Addr).add 1=⟨b,1,none⟩:=by simp [Addr.add]
 have ha2:(⟨b,0,none⟩:Addr).add 2=⟨b,2,none⟩:=by simp [Addr.add]
 simp [storeVar,sizeOf,typeInfo,hi,hz1,Value.cells,storeCells,store,ha0,ha1,ha2];simp [Sem.run,h.c0,h.f0,g2,gf,g3,gf3]
theorem exec_allocSt {o:Oper} {a:Act} (ho:o.op=.alloc 51):(execOp a.eval o).run Tryz.prog w=.ok (.value (.pointer (some ⟨w.heap.size,0,none⟩))) (w.alloc (.cells #[.int .i64 0,.int .i64 0,.int .i64 0] 51)):=by
 obtain ⟨i0,hi,hz0,hz1,hz2⟩:=info_parts infoSt;unfold execOp;simp [ho,Instr.alloc,typeInfo,zeroValue,hi,hz0,newVar,Value.cells,Result.andThen]
 try rfl
theorem boxSt (W:World) (x y z:Int):∃ X,(storeVar 51 ⟨W.heap.size,0,none⟩ (.agg #[.int .i64 x,.int .i64 y,.int .i64 z])).run Tryz.prog (W.alloc (.cells #[.int .i64 0,.int .i64 0,.int .i64 0] 51))=.ok () X∧CL X W.heap.size 0 (.int .i64 x)∧CL X W.heap.size 1 (.int .i64 y)∧CL X W.heap.size 2 (.int .i64 z)∧Below W.heap.size W X:=by
 have ht:=TriS.new W (.int .i64 0) (.int .i64 0) (.int .i64 0);have hs:=ht.set (.int .i64 x) (.int .i64 y) (.int .i64 z);exact ⟨_,run_storeSt x y z ht,⟨hs.c0,hs.lt⟩,⟨hs.c1,hs.lt⟩,⟨hs.c2,hs.lt⟩,((((Below.refl _ _).alloc (Nat.le_refl _) _).setCell (p:=⟨W.heap.size,0,none⟩) (Nat.le_refl _) _).setCell (p:=⟨W.heap.size,1,none⟩) (Nat.le_refl _) _).setCell (p:=⟨W.heap.size,2,none⟩) (Nat.le_refl _) _⟩
structure RnM (B:Nat) (W:World) (cb:Nat) (fv:Value) (T:List (List Nat)):Prop where
 row:∃ us,W.ownsRow B 30 1 fv T.length us∧Rg.FElts (GF W cb fv) W us (T.map Ma.ofN)
 off:fv.ownBlock≠some cb
 sz:B≤W.heap.size
theorem RnM.below (h:RnM B W cb fv T) (hb:Below W.heap.size W W'):RnM B W' cb fv T:=by
 obtain ⟨us,h1,h2⟩:=h.row;exact ⟨⟨us,Rg.row_below h1 hb,(h2.kp (M:=fun _=>False) (Rg.Kp.of_below hb) (fun _ _=>id)).mono fun k g=>g.up hb.size⟩,h.off,Nat.le_trans h.sz hb.size⟩
theorem RnM.shape (h:RnM B W cb fv T):∃ a c,fv=.slice a T.length c:=by
 obtain ⟨us,h1,h2⟩:=h.row;exact Rg.row_shape h1
theorem RnM.lt1 (h:RnM B W cb fv T):∀ k,fv.ownBlock=some k→B≤k∧k<W.heap.size:=fun k e=>by
 obtain ⟨us,h1,h2⟩:=h.row;exact h1.lt k e
theorem RnM.at (h:RnM B W cb fv T) (hl:T.length≤1000000) {i:Nat} {x:List Nat} (hi:i<T.length) (hx:T[i]?=some x) :
  ∃ b o c u,fv=.slice (some ⟨b,o,none⟩) T.length c∧CL W b (o+i) u∧EX W cb fv u (Ma.ofN x):=by
 obtain ⟨us,h1,h2⟩:=h.row;obtain ⟨a,c,e,h3,h4,h5,h6⟩:=Rg.Vals.of_row h1 (by omega)
 have hul:us.length=T.length:=by have:=h2.1; simpa using this
 obtain ⟨b,o,e1,e2,e3⟩:=h6 (by omega)
 have hiu:i<us.length:=by omega
 refine ⟨b,o,c,us[i],by rw [e,e1,hul],⟨e3 i hiu,e2⟩,⟨?_⟩⟩;have:=h2.2 i hiu (by simpa using hi);rw [List.getElem_map] at this;rw [List.getElem?_eq_getElem hi] at hx
 injection hx with hx
 rw [← hx]; exact this
theorem RnM.push (h:RnM B W cb fv T) (hcb:cb<W.heap.size) {x:List Nat} (hu:EX W cb fv u (Ma.ofN x)) (hs:∃ a m c,u=.slice a m c) (hn:T.length<1000000) (ty:TypeId) :
  ∃ a c X,(Builtin.append_ #[22,22] ty #[fv,.slice (some ⟨W.heap.size,0,none⟩) 1 1]).run Tryz.prog (W.alloc (.cells #[u] 30))=.ok (.slice a (T.length+1) c) X∧RnM B X cb (.slice a (T.length+1) c) (T++[x])∧Rg.Kp (fun k=>fv.ownBlock=some k) W X:=by
 obtain ⟨us,h1,h2⟩:=h.row;obtain ⟨a0,m0,c0,rfl⟩:=hs;have hb:Below W.heap.size W (W.alloc (.cells #[.slice a0 m0 c0] 30)):=(Below.refl _ _).alloc (Nat.le_refl _) _;obtain ⟨v',X,r1,r2,r3,r4,a,c,rfl⟩:=app_run (P:=Tryz.prog) slPerms ty (Rg.row_below h1 hb) (Nat.le_trans h.sz hb.size) W.heap.size 1 (u:=.slice a0 m0 c0) (by rw [Rg.cellNew]; rfl) rfl hn;have hk:Rg.Kp (fun k=>fv.ownBlock=some k) W X:=Rg.Kp.trans (M:=fun k=>fv.ownBlock=some k) ((Rg.Kp.of_below hb).weak fun _=>False.elim) (Rg.Kp.of_grown r3 fun _ e=>e) (fun _ _ e=>e)
 have e2:(W.alloc (.cells #[.slice a0 m0 c0] 30)).heap.size=W.heap.size+1:=by simp
 have hmono:∀ k,GF W cb fv k→GF X cb (.slice a (T.length+1) c) k:=fun k g=>by
  refine ⟨Nat.lt_of_lt_of_le g.1 hk.size,g.2.1,fun e=>?_⟩
  rcases r4 with r4 | r4
  ·exact g.2.2 (by rw [← r4]; exact e)
  ·rw [r4] at e
   injection e with e
   have:=g.1;omega
 have hmb:(Value.slice a (T.length+1) c).ownBlock≠some cb:=fun e=>by
  rcases r4 with r4 | r4
  ·exact h.off (by rw [← r4]; exact e)
  ·rw [r4] at e
   injection e with e
   omega
 exact ⟨a,c,X,r1,⟨⟨us++[.slice a0 m0 c0],by rw [List.length_append]; exact r2,by rw [List.map_append]; exact (FElts.snoc (h2.kp hk (fun k g e=>g.2.2 e)) (Rg.FI.kp hu.fi hk (fun k g e=>g.2.2 e))).mono hmono⟩,hmb,Nat.le_trans h.sz hk.size⟩,hk⟩
theorem RnM.set (h:RnM B W cb fv T) (y:Value):RnM B (W.setCell ⟨cb,0,none⟩ y) cb fv T:=by
 obtain ⟨us,h1,h2⟩:=h.row;have hk:Rg.Kp (fun k=>k=cb) W (W.setCell ⟨cb,0,none⟩ y):=Rg.Kp.of_setCell rfl;exact ⟨⟨us,rowKp h1 hk (fun k e e2=>h.off (by rw [e2,e])),(h2.kp hk (fun k g e=>g.2.1 e)).mono fun k g=>g.up hk.size⟩,h.off,Nat.le_trans h.sz hk.size⟩
end Go.Proofs.YtdnmmibchbceeaaGreat

namespace Go.Proofs.YtdnmmibchbceeaaGreat
open Go.RowKit
open Go.Proofs
open Go.Proofs.Ob
open Go.Proofs.Cm (Gd Gr IsChain ap)
theorem fold_new {x:List Nat} {wd:List Int}:∀ (l:List (List Nat × Int)) (st:BSt),∀ y∈l,Ma.mulN x y.1∈(l.foldl (bfStep x wd) st).1
 | [],st,y,hy=>by simp at hy
 | z :: l,st,y,hy=>by
  rcases List.mem_cons.1 hy with hy | hy
  ·subst hy
   have h1:Ma.mulN x y.1∈(bfStep x wd st y).1:=by
    unfold bfStep
    split
    ·assumption
    ·exact List.mem_append_right _ (List.mem_singleton.2 rfl)
   exact (Ext.fold x wd l _).1.subset h1
  ·exact fold_new l _ y hy
theorem bfs_step_ext (ml:List (List Nat × Int)) (N i:Nat):Ext (bfs ml N i) (bfs ml N (i+1)):=by
 show Ext _ (if i<(bfs ml N i).1.length then bfRow ml (bfs ml N i) i else bfs ml N i)
 split
 ·exact Ext.fold _ _ _ _
 ·exact Ext.refl _
theorem bfs_closed (ml:List (List Nat × Int)) (N:Nat):∀ (i j:Nat) (x:List Nat),j<i→(bfs ml N i).1[j]?=some x→∀ y∈ml,Ma.mulN x y.1∈(bfs ml N i).1
 | 0,j,x,hj,_,_,_=>absurd hj (Nat.not_lt_zero _)
 | i+1,j,x,hj,hx,y,hy=>by
  obtain ⟨t,ht⟩:=(bfs_step_ext ml N i).1
  by_cases h:i<(bfs ml N i).1.length
  ·by_cases e:j=i
   ·subst e
    have hx2:(bfs ml N j).1.getD j []=x:=by
     rw [← ht,List.getElem?_append_left h,List.getElem?_eq_getElem h] at hx;rw [List.getD_eq_getElem?_getD,List.getElem?_eq_getElem h];exact Option.some.inj hx
    have e3:bfs ml N (j+1)=bfRow ml (bfs ml N j) j:=by
     show (if j<(bfs ml N j).1.length then bfRow ml (bfs ml N j) j else bfs ml N j)=_;rw [if_pos h]
    rw [e3];unfold bfRow;rw [hx2];exact fold_new ml _ y hy
   ·have hji:j<i:=by omega
    have hx2:(bfs ml N i).1[j]?=some x:=by
     rw [← ht,List.getElem?_append_left (by omega)] at hx;exact hx
    have:=bfs_closed ml N i j x hji hx2 y hy;rw [← ht];exact List.mem_append_left _ this
  ·have e3:bfs ml N (i+1)=bfs ml N i:=by
    show (if i<(bfs ml N i).1.length then bfRow ml (bfs ml N i) i else bfs ml N i)=_;rw [if_neg h]
   rw [e3] at hx ⊢;have hj2:j<(bfs ml N i).1.length:=(List.getElem?_eq_some_iff.1 hx).1;exact bfs_closed ml N i j x (by omega) hx y hy
theorem BfE.closed {ml:List (List Nat × Int)} {st:BSt} (h:BfE ml N st) {x:List Nat} (hx:x∈st.1) {y:List Nat × Int} (hy:y∈ml):Ma.mulN x y.1∈st.1:=by
 obtain ⟨i,rfl,hi⟩:=h;obtain ⟨j,hj,e⟩:=List.getElem_of_mem hx;exact bfs_closed ml N i j x (by omega) (by rw [List.getElem?_eq_getElem hj,e]) y hy
theorem BfE.one {ml:List (List Nat × Int)} {st:BSt} (h:BfE ml N st):Ma.oneN N∈st.1:=by
 obtain ⟨i,rfl,h2⟩:=h;clear h2
 induction i with
 | zero=>exact List.mem_singleton.2 rfl
 | succ i ih=>exact (bfs_step_ext ml N i).1.subset ih
theorem mlets_at (hs:s∈gs):(∃ z,(s,z)∈mlets gs)∧∃ z,(Ma.invN s,z)∈mlets gs:=by
 have h1:s∈(mlets gs).map (·.1):=by
  rw [mlets_fst]; exact List.mem_flatMap.2 ⟨s,hs,by simp⟩
 have h2:Ma.invN s∈(mlets gs).map (·.1):=by
  rw [mlets_fst]; exact List.mem_flatMap.2 ⟨s,hs,by simp⟩
 obtain ⟨p,hp,e⟩:=List.mem_map.1 h1;obtain ⟨q,hq,e2⟩:=List.mem_map.1 h2;exact ⟨⟨p.2,by rw [← e]; exact hp⟩,⟨q.2,by rw [← e2]; exact hq⟩⟩
theorem inv_unique {x y:List Nat} (hx:Gd n x) (hy:Gd n y) (h:Ma.mulN x y=Ma.oneN n):Ma.invN x=y:=by
 rw [← Cm.mul_one (Cm.gd_inv hx),← h,← Cm.mul_assoc (Cm.gd_inv hx) hx,Cm.inv_mul hx,Cm.one_mul hy]
theorem inv_twice {x:List Nat} (hx:Gd n x):Ma.invN (Ma.invN x)=x:=inv_unique (Cm.gd_inv hx) hx (Cm.inv_mul hx)
theorem inv_prod {b:List Nat} (ha:Gd n a) (hb:Gd n b):Ma.invN (Ma.mulN a b)=Ma.mulN (Ma.invN b) (Ma.invN a):=by
 refine inv_unique (Cm.gd_mul ha hb) (Cm.gd_mul (Cm.gd_inv hb) (Cm.gd_inv ha)) ?_;rw [← Cm.mul_assoc (Cm.gd_mul ha hb) (Cm.gd_inv hb),Cm.mul_cancel_inv ha hb,Cm.mul_inv ha]
theorem BfE.all (hg:∀ s∈gs,Gd N s) {st:BSt} (h:BfE (mlets gs) N st) {x:List Nat} (hx:Cm.Gr N (·∈gs) x):x∈st.1:=by
 have hb:BI N st:=by obtain ⟨i,rfl,_⟩:=h; exact bfs_BI (mlets_gd hg) i
 have key:(∀ y∈st.1,Ma.mulN y x∈st.1)∧(∀ y∈st.1,Ma.mulN y (Ma.invN x)∈st.1):=by
  induction hx with
  | one =>
   have e:Ma.invN (Ma.oneN N)=Ma.oneN N:=Cm.inv_one N;refine ⟨fun y hy=>?_,fun y hy=>?_⟩
   ·rw [Cm.mul_one (hb.gd y hy)]; exact hy
   ·rw [e,Cm.mul_one (hb.gd y hy)]; exact hy
  | gen s hs =>
   obtain ⟨⟨z1,h1⟩,⟨z2,h2⟩⟩:=mlets_at hs;exact ⟨fun y hy=>h.closed hy h1,fun y hy=>h.closed hy h2⟩
  | mul a b ha hbb iha ihb =>
   have ga:=(Cm.Gr.isG hg).gd _ ha;have gb:=(Cm.Gr.isG hg).gd _ hbb;refine ⟨fun y hy=>?_,fun y hy=>?_⟩
   ·rw [← Cm.mul_assoc (hb.gd y hy) ga]; exact ihb.1 _ (iha.1 y hy)
   ·rw [inv_prod ga gb,← Cm.mul_assoc (hb.gd y hy) (Cm.gd_inv gb)]
    exact iha.2 _ (ihb.2 y hy)
  | inv a ha iha =>
   have ga:=(Cm.Gr.isG hg).gd _ ha;exact ⟨iha.2,fun y hy=>by rw [inv_twice ga]; exact iha.1 y hy⟩
 have:=key.1 _ h.one
 rwa [Cm.one_mul ((Cm.Gr.isG hg).gd _ hx)] at this
end Go.Proofs.YtdnmmibchbceeaaGreat

namespace Go.Proofs.YtdnmmibchbceeaaGreat
open Go.RowKit
open Go.Proofs
open Go.Proofs.Ob
open Go.Proofs.Cm (Tr TabOk Gr Gd Sd idT sfP Fx ap IsChain IsG IsTr St setT)
theorem rn_snoc:∀ {S:List Stp} {gs T:List (List Nat)} {s:Stp},rn S gs=(0,T)→rnC T s=0→rn (S++[s]) gs=(0,T++[rnE T s])
 | [],gs,T,s,h,hc=>by
  have h:((0:Int),gs)=(0,T):=h
  injection h with _ h; subst h
  rw [List.nil_append,rn_ok hc]; rfl
 | a :: S,gs,T,s,h,hc=>by
  by_cases h0:rnC gs a=0
  ·rw [rn_ok h0] at h
   rw [List.cons_append,rn_ok h0];exact rn_snoc h hc
  ·rw [rn_bad h0] at h
   injection h with h1 h2
   exact absurd h1 h0
theorem rn_len:∀ {S:List Stp} {gs T:List (List Nat)},rn S gs=(0,T)→T.length=gs.length+S.length
 | [],gs,T,h=>by
  have h:((0:Int),gs)=(0,T):=h
  injection h with _ h; subst h; rfl
 | a :: S,gs,T,h=>by
  by_cases h0:rnC gs a=0
  ·rw [rn_ok h0] at h
   have:=rn_len h;simp at this ⊢; omega
  ·rw [rn_bad h0] at h
   injection h with h1 h2
   exact absurd h1 h0
structure Mk (N:Nat) (gs:List (List Nat)) (S:List Stp) (T:List (List Nat)):Prop where
 run:rn S gs=(0,T)
 gd:∀ y∈T,Gd N y
theorem Mk.len {S:List Stp} (h:Mk N gs S T):T.length=gs.length+S.length:=rn_len h.run
theorem Mk.start (h:∀ s∈gs,Gd N s):Mk N gs [] gs:=⟨rfl,h⟩
theorem Mk.at {S:List Stp} (h:Mk N gs S T) {x:List Nat} (hx:T[k]?=some x):Gd N x:=h.gd x (List.mem_of_getElem? hx)
theorem rnIn_of {x:List Nat} (hx:T[k]?=some x):rnIn T ((k:Nat):Int):=⟨by omega,by have:=(List.getElem?_eq_some_iff.1 hx).1; omega⟩
theorem Mk.mul {S:List Stp} (h:Mk N gs S T) {a b:Nat} {x y:List Nat} (hx:T[a]?=some x) (hy:T[b]?=some y) :
  Mk N gs (S++[((1:Int),((a:Nat):Int),((b:Nat):Int))]) (T++[Ma.mulN x y]):=by
 have hc:rnC T ((1:Int),((a:Nat):Int),((b:Nat):Int))=0:=rnC_m rfl (rnIn_of hx) (rnIn_of hy);have he:rnE T ((1:Int),((a:Nat):Int),((b:Nat):Int))=Ma.mulN x y:=rnE_m rfl hx hy;refine ⟨by rw [rn_snoc h.run hc,he],fun z hz=>?_⟩
 rcases List.mem_append.1 hz with hz | hz
 ·exact h.gd z hz
 ·rw [List.mem_singleton] at hz; rw [hz]; exact Cm.gd_mul (h.at hx) (h.at hy)
theorem Mk.inv {S:List Stp} (h:Mk N gs S T) {a:Nat} {x:List Nat} (hx:T[a]?=some x) :
  Mk N gs (S++[((2:Int),((a:Nat):Int),(0:Int))]) (T++[Ma.invN x]):=by
 have hc:rnC T ((2:Int),((a:Nat):Int),(0:Int))=0:=rnC_i rfl (rnIn_of hx);have he:rnE T ((2:Int),((a:Nat):Int),(0:Int))=Ma.invN x:=rnE_i rfl hx;refine ⟨by rw [rn_snoc h.run hc,he],fun z hz=>?_⟩
 rcases List.mem_append.1 hz with hz | hz
 ·exact h.gd z hz
 ·rw [List.mem_singleton] at hz; rw [hz]; exact Cm.gd_inv (h.at hx)
theorem pre_at (h:T <+: T') {x:List Nat} (hx:T[k]?=some x):T'[k]?=some x:=by
 obtain ⟨t,rfl⟩:=h;rw [List.getElem?_append_left (List.getElem?_eq_some_iff.1 hx).1]; exact hx
theorem at_last (x:List Nat):(T++[x])[T.length]?=some x:=by
 rw [List.getElem?_append_right (Nat.le_refl _),Nat.sub_self]; rfl
structure En where
 b:Nat
 i:Nat
 p:Nat
 x:List Nat
 at_:Nat
 by_:Int
structure EnOk (N:Nat) (T:List (List Nat)) (e:En):Prop where
 gd:Gd N e.x
 fx:Fx e.i e.x
 ap_:ap e.x e.i=e.p
 lt:e.i<N
 ne:e.p≠e.i
 at_:T[e.at_]?=some e.x
 by_:e.by_ = -1∨∃ k:Nat,e.by_=((k:Nat):Int)∧T[k]?=some (Ma.invN e.x)
theorem EnOk.mono {e:En} (h:EnOk N T e) (hT:T <+: T'):EnOk N T' e :=
 ⟨h.gd,h.fx,h.ap_,h.lt,h.ne,pre_at hT h.at_,h.by_.imp id fun ⟨k,h1,h2⟩=>⟨k,h1,pre_at hT h2⟩⟩
def fnd (es:List En) (i p:Nat):Option En:=es.find? fun e=>(i,p) == (e.i,e.p)
def trE (es:List En):Tr:=fun i p=>(fnd es i p).map (·.x)
theorem fnd_mem {es:List En} {i p:Nat} {e:En} (h:fnd es i p=some e):e∈es∧e.i=i∧e.p=p:=by
 refine ⟨List.mem_of_find?_eq_some h,?_⟩;have:=List.find?_some h;simp at this;exact ⟨this.1.symm,this.2.symm⟩
def setBy (es:List En) (b:Nat) (k:Int):List En:=es.map fun e=>if e.b=b then { e with by_:=k } else e
theorem setBy_len (es:List En) (b:Nat) (k:Int):(setBy es b k).length=es.length:=List.length_map _
theorem setBy_key (es:List En) (b:Nat) (k:Int):(setBy es b k).map (fun e=>(e.i,e.p))=es.map fun e=>(e.i,e.p):=by
 unfold setBy;rw [List.map_map];refine List.map_congr_left fun e _=>?_;show (_,_)=_
 dsimp only [Function.comp]
 split <;> rfl
theorem setBy_b (es:List En) (b:Nat) (k:Int):(setBy es b k).map (·.b)=es.map (·.b):=by
 unfold setBy;rw [List.map_map];refine List.map_congr_left fun e _=>?_
 dsimp only [Function.comp]
 split <;> rfl
theorem setBy_fnd (es:List En) (b:Nat) (k:Int) (i p:Nat):fnd (setBy es b k) i p=(fnd es i p).map fun e=>if e.b=b then { e with by_:=k } else e:=by
 unfold fnd setBy;rw [List.find?_map]
 congr 2
 funext e
 dsimp only [Function.comp]
 split <;> rfl
theorem setBy_tr (es:List En) (b:Nat) (k:Int):trE (setBy es b k)=trE es:=by
 funext i p
 unfold trE;rw [setBy_fnd,Option.map_map]
 congr 1
 funext e
 dsimp only [Function.comp]
 split <;> rfl
theorem fnd_snoc {es:List En} {e:En} (i p:Nat):fnd (es++[e]) i p=(fnd es i p).or (if i=e.i∧p=e.p then some e else none):=by
 unfold fnd;rw [List.find?_append]
 congr 1
 by_cases h:i=e.i∧p=e.p
 ·rw [if_pos h,List.find?_cons_of_pos (by simp [h.1,h.2])]
 ·rw [if_neg h,List.find?_cons_of_neg (by simpa using h)]; rfl
theorem trE_snoc {es:List En} {e:En} (h:fnd es e.i e.p=none):trE (es++[e])=setT (trE es) e.i e.p e.x:=by
 funext i p
 show (fnd (es++[e]) i p).map (·.x)=if i=e.i∧p=e.p then some e.x else (fnd es i p).map (·.x);rw [fnd_snoc]
 by_cases hc:i=e.i∧p=e.p
 ·rw [if_pos hc,if_pos hc,hc.1,hc.2,h]; rfl
 ·rw [if_neg hc,if_neg hc]
  cases fnd es i p <;> rfl
theorem idT_at {es:List En} {i p:Nat} (h:p≠i):idT N (trE es) i p=(fnd es i p).map (·.x):=Cm.idT_ne h
def usE (es:List En) (N:Nat):Nat→List Nat→List En
 | 0,_=>[]
 | d+1,x=>if ap x (N - (d+1))=N - (d+1) then usE es N d x else
  match fnd es (N - (d+1)) (ap x (N - (d+1))) with
  | none=>[]
  | some e=>e :: usE es N d (Ma.mulN x (Ma.invN e.x))
theorem usE_eq {es:List En} {i:Nat} {x:List Nat} (hi:i<N) (h:ap x i=i):usE es N (N - i) x=usE es N (N - (i+1)) x:=by
 obtain ⟨d,e⟩:∃ d,N - i=d+1:=⟨N - i - 1,by omega⟩
 have e2:N - (i+1)=d:=by omega
 have e3:N - (d+1)=i:=by omega
 rw [e,e2];show (if ap x (N - (d+1))=N - (d+1) then usE es N d x else _)=_;rw [e3,if_pos h]
theorem usE_none {es:List En} {i:Nat} {x:List Nat} (hi:i<N) (h:ap x i≠i) (hf:fnd es i (ap x i)=none):usE es N (N - i) x=[]:=by
 obtain ⟨d,e⟩:∃ d,N - i=d+1:=⟨N - i - 1,by omega⟩
 have e3:N - (d+1)=i:=by omega
 rw [e];unfold usE;rw [e3,if_neg h,hf]
theorem usE_some {es:List En} {i:Nat} {x:List Nat} {e0:En} (hi:i<N) (h:ap x i≠i) (hf:fnd es i (ap x i)=some e0):usE es N (N - i) x=e0 :: usE es N (N - (i+1)) (Ma.mulN x (Ma.invN e0.x)):=by
 obtain ⟨d,e⟩:∃ d,N - i=d+1:=⟨N - i - 1,by omega⟩
 have e2:N - (i+1)=d:=by omega
 have e3:N - (d+1)=i:=by omega
 rw [e,e2]
 conv=>lhs; unfold usE
 rw [e3,if_neg h,hf]
theorem sfP_eq {es:List En} {i:Nat} {x:List Nat} (hi:i<N) (gx:Gd N x) (h:ap x i=i):sfP N (idT N (trE es)) (N - i) x=sfP N (idT N (trE es)) (N - (i+1)) x:=by
 obtain ⟨d,e⟩:∃ d,N - i=d+1:=⟨N - i - 1,by omega⟩
 have e2:N - (i+1)=d:=by omega
 have e3:N - (d+1)=i:=by omega
 rw [e,e2,Cm.sfP_some (u:=Ma.oneN N) (by rw [e3,h]; exact Cm.idT_self),Cm.inv_one,Cm.mul_one gx]
theorem sfP_no {es:List En} {i:Nat} {x:List Nat} (hi:i<N) (h:ap x i≠i) (hf:fnd es i (ap x i)=none):sfP N (idT N (trE es)) (N - i) x=(i,x):=by
 obtain ⟨d,e⟩:∃ d,N - i=d+1:=⟨N - i - 1,by omega⟩
 have e3:N - (d+1)=i:=by omega
 rw [e,Cm.sfP_none (by rw [e3,idT_at h,hf]; rfl),e3]
theorem sfP_yes {es:List En} {i:Nat} {x:List Nat} {e0:En} (hi:i<N) (h:ap x i≠i) (hf:fnd es i (ap x i)=some e0):sfP N (idT N (trE es)) (N - i) x=sfP N (idT N (trE es)) (N - (i+1)) (Ma.mulN x (Ma.invN e0.x)):=by
 obtain ⟨d,e⟩:∃ d,N - i=d+1:=⟨N - i - 1,by omega⟩
 have e2:N - (i+1)=d:=by omega
 have e3:N - (d+1)=i:=by omega
 rw [e,e2,Cm.sfP_some (u:=e0.x) (by rw [e3,idT_at h,hf]; rfl)]
theorem usE_len (es:List En) (N:Nat):∀ d x,(usE es N d x).length≤d
 | 0,_=>Nat.le_refl _
 | d+1,x=>by
  unfold usE
  split
  ·exact Nat.le_succ_of_le (usE_len es N d x)
  ·split
   ·exact Nat.zero_le _
   ·exact Nat.succ_le_succ (usE_len es N d _)
theorem usE_mem {es:List En} {N:Nat}:∀ {d:Nat} {x:List Nat} {e:En},e∈usE es N d x→e∈es
 | 0,_,e,h=>by cases h
 | d+1,x,e,h=>by
  unfold usE at h
  split at h
  ·exact usE_mem h
  ·split at h
   ·cases h
   ·rename_i e0 hf
    rcases List.mem_cons.1 h with h | h
    ·rw [h]; exact (fnd_mem hf).1
    ·exact usE_mem h
theorem usE_val {es:List En} {N:Nat} (hg:∀ e∈es,Gd N e.x):∀ {d:Nat} {x:List Nat},d≤N→Gd N x→(sfP N (idT N (trE es)) d x).2=(usE es N d x).foldl (fun y e=>Ma.mulN y (Ma.invN e.x)) x
 | 0,x,_,_=>rfl
 | d+1,x,hd,gx=>by
  have hi:N - (d+1)<N:=by omega
  have e1:N - (N - (d+1))=d+1:=by omega
  have e2:N - (N - (d+1)+1)=d:=by omega
  by_cases h:ap x (N - (d+1))=N - (d+1)
  ·have q1:=sfP_eq (es:=es) hi gx h
   have q2:=usE_eq (es:=es) hi h;rw [e1,e2] at q1 q2;rw [q1,q2];exact usE_val hg (by omega) gx
  ·cases hf:fnd es (N - (d+1)) (ap x (N - (d+1))) with
   | none =>
    have q1:=sfP_no hi h hf;have q2:=usE_none hi h hf;rw [e1] at q1 q2;rw [q1,q2]; rfl
   | some e0 =>
    have q1:=sfP_yes hi h hf;have q2:=usE_some hi h hf;rw [e1,e2] at q1 q2;rw [q1,q2];exact usE_val hg (by omega) (Cm.gd_mul gx (Cm.gd_inv (hg _ (fnd_mem hf).1)))
theorem fold_back {N:Nat}:∀ (l:List En) (x:List Nat),(∀ e∈l,Gd N e.x)→Gd N x→l.foldl (fun y e=>Ma.mulN y (Ma.invN e.x)) x=Ma.oneN N→x=l.reverse.foldl (fun y e=>Ma.mulN y e.x) (Ma.oneN N)
 | [],x,_,_,h=>h
 | e :: l,x,hl,gx,h=>by
  have ge:=hl e (List.mem_cons_self ..);have ih:=fold_back l (Ma.mulN x (Ma.invN e.x)) (fun z hz=>hl z (List.mem_cons_of_mem _ hz)) (Cm.gd_mul gx (Cm.gd_inv ge)) h;rw [List.reverse_cons,List.foldl_append,← ih];exact (Cm.mul_inv_cancel gx ge).symm
structure Tb (N:Nat) (gs:List (List Nat)) (S:List Stp) (T:List (List Nat)) (es:List En):Prop where
 sk:Mk N gs S T
 en:∀ e∈es,EnOk N T e
 ok:TabOk N (·∈gs) (trE es)
 nk:(es.map fun e=>(e.i,e.p)).Nodup
theorem fnd_of {es:List En} (h:(es.map fun e=>(e.i,e.p)).Nodup) {e:En} (he:e∈es):fnd es e.i e.p=some e:=by
 induction es with
 | nil=>cases he
 | cons a es ih =>
  rw [List.map_cons,List.nodup_cons] at h;unfold fnd
  rcases List.mem_cons.1 he with rfl | he
  ·rw [List.find?_cons_of_pos (by simp)]
  ·rw [List.find?_cons_of_neg]
   ·exact ih h.2 he
   ·intro q
    have q:=eq_of_beq q;exact h.1 (List.mem_map.2 ⟨e,he,q⟩)
theorem Tb.le {S:List Stp} {es:List En} (h:Tb N gs S T es) (hg:∀ s,s∈gs→Sd N (idT N (trE es)) N s):LE N (·∈gs) (trE es) (es.map (·.x)):=by
 have key:∀ e∈es,trE es e.i e.p=some e.x:=fun e he=>by unfold trE; rw [fnd_of h.nk he]; rfl
 refine ⟨h.ok,fun x hx=>?_,fun x hx=>?_,?_,hg⟩
 ·obtain ⟨e,he,rfl⟩:=List.mem_map.1 hx
  have:=key e he;obtain ⟨h1,h2⟩:=h.ok.lt _ _ _ this;exact mem_ents.2 ⟨e.i,e.p,h1,h2,this⟩
 ·obtain ⟨i,p,hi,hp,e⟩:=mem_ents.1 hx
  unfold trE at e;obtain ⟨e0,h1,h2⟩:=Option.map_eq_some_iff.1 e;rw [← h2]; exact List.mem_map_of_mem (fnd_mem h1).1
 ·rw [List.Nodup,List.pairwise_map]
  have:=h.nk;rw [List.Nodup,List.pairwise_map] at this;refine List.Pairwise.imp_of_mem (fun {a b} ha hb hne e=>hne ?_) this;have h1:=key a ha;have h2:=key b hb;rw [← e] at h2;obtain ⟨q1,q2⟩:=tab_inj h.ok h1 h2;exact Prod.ext q1 q2
theorem Tb.few {S:List Stp} {es:List En} (h:Tb N gs S T es):es.length≤N*N:=by
 have key:∀ e∈es,trE es e.i e.p=some e.x:=fun e he=>by unfold trE; rw [fnd_of h.nk he]; rfl
 have h1:=nodup_le (l:=es.map fun e=>(e.i,e.p)) (m:=(List.range N).flatMap fun i=>(List.range N).map fun p=>(i,p)) h.nk fun x hx=>by
  obtain ⟨e,he,rfl⟩:=List.mem_map.1 hx;obtain ⟨h1,h2⟩:=h.ok.lt _ _ _ (key e he);exact List.mem_flatMap.2 ⟨e.i,List.mem_range.2 h1,List.mem_map.2 ⟨e.p,List.mem_range.2 h2,rfl⟩⟩
 have h2:∀ l:List Nat,(l.flatMap fun i=>(List.range N).map fun p=>(i,p)).length=l.length*N:=by
  intro l
  induction l with
  | nil=>simp
  | cons a l ih=>rw [List.flatMap_cons,List.length_append,ih,List.length_map,List.length_range,List.length_cons,Nat.succ_mul,Nat.add_comm]
 rw [h2,List.length_map,List.length_range] at h1;exact h1
theorem Tb.grow {S S':List Stp} {es:List En} (h:Tb N gs S T es) (hm:Mk N gs S' T') (hT:T <+: T'):Tb N gs S' T' es :=
 ⟨hm,fun e he=>(h.en e he).mono hT,h.ok,h.nk⟩
theorem Tb.setBy {N:Nat} {gs:List (List Nat)} {S:List Stp} {T:List (List Nat)} {es:List En} (h:Tb N gs S T es) {b k:Nat} (hk:∀ e∈es,e.b=b→T[k]?=some (Ma.invN e.x)):Tb N gs S T (setBy es b ((k:Nat):Int)):=by
 refine ⟨h.sk,fun e he=>?_,by rw [setBy_tr]; exact h.ok,by rw [setBy_key]; exact h.nk⟩;unfold Go.Proofs.YtdnmmibchbceeaaGreat.setBy at he;obtain ⟨e0,h0,rfl⟩:=List.mem_map.1 he;have h1:=h.en e0 h0
 split
 ·rename_i hb
  exact ⟨h1.gd,h1.fx,h1.ap_,h1.lt,h1.ne,h1.at_,.inr ⟨k,rfl,hk e0 h0 hb⟩⟩
 ·exact h1
theorem Tb.put (hg:∀ s∈gs,Gd N s) {S:List Stp} {es:List En} (h:Tb N gs S T es) {x:List Nat} (hx:Gr N (·∈gs) x) {i:Nat} {y:List Nat} (hA:sfP N (idT N (trE es)) N x=(i,y)) (hi:i<N) {b:Nat} (hk:T[k]?=some y) :
  Tb N gs S T (es++[⟨b,i,ap y i,y,k,-1⟩])∧(∀ j q u,idT N (trE es) j q=some u→idT N (trE (es++[⟨b,i,ap y i,y,k,-1⟩])) j q=some u)∧Sd N (idT N (trE (es++[⟨b,i,ap y i,y,k,-1⟩]))) N x:=by
 have gx:=(Gr.isG hg).gd x hx;obtain ⟨a1,_,a3,a4,a5⟩:=Cm.sfP_all h.ok.rp (Nat.le_refl N) (by omega) gx (fun j hj=>absurd hj (by omega));obtain ⟨b1,b2,b3,_⟩:=tab_ins hg h.ok hx;rw [hA] at a1 a3 a4 a5 b1 b2 b3;have a5:=a5 hi
 have hne:ap y i≠i:=fun e=>by rw [e,Cm.idT_self] at a5; cases a5
 have hno:fnd es i (ap y i)=none:=by
  rw [idT_at hne] at a5;exact Option.map_eq_none_iff.1 a5
 have ht:trE (es++[⟨b,i,ap y i,y,k,-1⟩])=insT N (trE es) (i,y):=by
  rw [trE_snoc (e:=⟨b,i,ap y i,y,k,-1⟩) hno];unfold insT;rw [if_pos hi]
 rw [ht];refine ⟨⟨h.sk,fun e he=>?_,by rw [ht]; exact b1,?_⟩,b2,b3⟩
 ·rcases List.mem_append.1 he with he | he
  ·exact h.en e he
  ·rw [List.mem_singleton] at he; subst he
   exact ⟨a3,a4,rfl,hi,hne,hk,.inl rfl⟩
 ·rw [List.map_append,List.map_singleton]
  refine List.nodup_append.2 ⟨h.nk,by simp,fun a ha b hb e=>?_⟩;rw [List.mem_singleton] at hb;subst hb;obtain ⟨e0,h0,h1⟩:=List.mem_map.1 ha;rw [e] at h1
  injection h1 with h1 h2
  have:=fnd_of h.nk h0;rw [h1,h2,hno] at this
  cases this
theorem Tb.same (hg:∀ s∈gs,Gd N s) {S:List Stp} {es:List En} (h:Tb N gs S T es) {x:List Nat} (hx:Gr N (·∈gs) x) (hA:¬ (sfP N (idT N (trE es)) N x).1<N):Sd N (idT N (trE es)) N x:=by
 obtain ⟨_,_,b3,_⟩:=tab_ins hg h.ok hx;unfold insT at b3
 rwa [if_neg hA] at b3
theorem sfP_grp (hH:IsG n H) {tr:Tr} (ht:IsTr n H tr) {x:List Nat} (gx:Gd n x):(sfP n tr n x).1=n↔H x:=by
 constructor
 ·intro e
  have key:∀ d x,d≤n→Gd n x→(sfP n tr d x).1=n→H (sfP n tr d x).2→H x:=by
   intro d
   induction d with
   | zero=>intro x _ _ _ h; exact h
   | succ d ih =>
    intro x hd gx he hx
    cases hu:tr (n - (d+1)) (ap x (n - (d+1))) with
    | none =>
     rw [Cm.sfP_none hu] at he;simp at he;omega
    | some u =>
     rw [Cm.sfP_some hu] at he hx;have hmu:=ht.mem _ _ _ (by omega) hu;have gu:=hH.gd u hmu;have:=ih _ (by omega) (Cm.gd_mul gx (Cm.gd_inv gu)) he hx;have h2:=hH.mul _ _ this hmu
     rwa [Cm.mul_inv_cancel gx gu] at h2
  have hone:(sfP n tr n x).2=Ma.oneN n:=by
   have h1:=Cm.sfP_all ht.rp (d:=n) (x:=x) (Nat.le_refl _) (Nat.zero_le _) gx (by rw [Nat.sub_self]; intro j hj; omega);refine Fx.all h1.2.2.1 ?_;have h2:=h1.2.2.2.1;have e2:(sfP n tr n x).1=n:=e
   rwa [e2] at h2
  exact key n x (Nat.le_refl _) gx e (by rw [hone]; exact hH.one)
 ·intro hx
  have key:∀ d x,d≤n→St H (n - d) x→(sfP n tr d x).1=n:=by
   intro d
   induction d with
   | zero=>intro x _ _; rfl
   | succ d ih =>
    intro x hd hx;obtain ⟨u,hu⟩:=ht.all (n - (d+1)) x (by omega) hx;rw [Cm.sfP_some hu];have gx:=hH.gd x hx.1;have hs:=Cm.step_fx ht.rp (Nat.zero_le _) (by omega) gx hx.2 hu;refine ih _ (by omega) ⟨hH.mul _ _ hx.1 (hH.inv _ (ht.mem _ _ _ (by omega) hu)),?_⟩;rw [show n - d=n - (d+1)+1 by omega];exact hs.2
  exact key n x (Nat.le_refl _) ⟨hx,by rw [Nat.sub_self]; intro j hj; omega⟩
theorem Tb.prod {S:List Stp} {es:List En} (h:Tb N gs S T es) {x:List Nat} (gx:Gd N x) (hA:(sfP N (idT N (trE es)) N x).1=N):x=(usE es N N x).reverse.foldl (fun y e=>Ma.mulN y e.x) (Ma.oneN N):=by
 have hg:∀ e∈es,Gd N e.x:=fun e he=>(h.en e he).gd;refine fold_back _ _ (fun e he=>hg e (usE_mem he)) gx ?_;rw [← usE_val hg (Nat.le_refl _) gx];have h1:=Cm.sfP_all h.ok.rp (d:=N) (x:=x) (Nat.le_refl _) (Nat.zero_le _) gx (by rw [Nat.sub_self]; intro j hj; omega);refine Fx.all h1.2.2.1 ?_;have h2:=h1.2.2.2.1
 rwa [hA] at h2
end Go.Proofs.YtdnmmibchbceeaaGreat

namespace Go.Proofs.YtdnmmibchbceeaaGreat
open Go.RowKit
open Go.Proofs
open Go.Proofs.Ob
open Go.Proofs.Cm (Gd)
attribute [local irreducible] Go.Calls
structure Gw (F M:Nat→Prop) (w:World) (F' M':Nat→Prop) (w':World):Prop where
 kg:KG F w F' w'
 kp:Rg.Kp M w w'
 nF:∀ k,F' k→F k∨w.heap.size≤k
 nM:∀ k,M' k→M k∨w.heap.size≤k
theorem Gw.refl {F M:Nat→Prop} {w:World} (h:∀ k,F k→k<w.heap.size):Gw F M w F M w:=⟨KG.refl h,Rg.Kp.refl _ _,fun _=>.inl,fun _=>.inl⟩
theorem Gw.trans {F M F' M' F'' M'':Nat→Prop} {w w' w'':World} (h:Gw F M w F' M' w') (h':Gw F' M' w' F'' M'' w''):Gw F M w F'' M'' w'':=by
 have hs:=h.kp.size;refine ⟨h.kg.trans h'.kg,Rg.Kp.trans h.kp h'.kp (fun k hk hm=>?_),fun k hk=>?_,fun k hk=>?_⟩
 ·rcases h.nM k hm with e | e
  ·exact e
  ·omega
 ·rcases h'.nF k hk with e | e
  ·exact h.nF k e
  ·exact .inr (by omega)
 ·rcases h'.nM k hk with e | e
  ·exact h.nM k e
  ·exact .inr (by omega)
theorem Gw.up {F M F' M':Nat→Prop} {w w' w'':World} (h:Gw F M w F' M' w') (hb:Below w'.heap.size w' w''):Gw F M w (Fup F' w' w'') M' w'':=by
 have hs:=h.kp.size;refine ⟨h.kg.up hb,Rg.Kp.trans (M:=M) h.kp (Rg.Kp.of_below (M:=M) hb) (fun _ _ e=>e),fun k hk=>?_,h.nM⟩
 rcases hk with hk | hk
 ·exact h.nF k hk
 ·exact .inr (by omega)
theorem Gw.put (hF:∀ k,F k→k<w.heap.size∧¬ M k) (hk:Rg.Kp M w w') (hM:∀ k,M' k→M k∨w.heap.size≤k):Gw F M w F M' w' :=
 ⟨(KG.refl fun k h=>(hF k h).1).kf' (hk.weak fun k hm hf=>(hF k hf).2 hm),hk,fun _=>.inl,hM⟩
structure RwI (F M:Nat→Prop) (W:World) (v:Value) (l:List Int):Prop where
 own:∃ B,B≤W.heap.size∧W.ownsRow B 3 1 v l.length (l.map (Value.int .i64))
 off:∀ k,v.ownBlock=some k→¬ F k∧¬ M k∧k<W.heap.size
theorem RwI.gw (h:RwI F M w v l) (hg:Gw F M w F' M' w'):RwI F' M' w' v l:=by
 obtain ⟨B,h0,h1⟩:=h.own;refine ⟨⟨B,Nat.le_trans h0 hg.kp.size,rowKp h1 hg.kp (fun k hm e=>(h.off k e).2.1 hm)⟩,fun k e=>?_⟩;obtain ⟨a,b,c⟩:=h.off k e;refine ⟨fun hf=>?_,fun hm=>?_,Nat.lt_of_lt_of_le c hg.kp.size⟩
 ·rcases hg.nF k hf with q | q
  ·exact a q
  ·omega
 ·rcases hg.nM k hm with q | q
  ·exact b q
  ·omega
theorem RwI.up (h:RwI F M w v l) (hb:Below w.heap.size w w'):RwI (Fup F w w') M w' v l:=by
 obtain ⟨B,h0,h1⟩:=h.own;refine ⟨⟨B,Nat.le_trans h0 hb.size,Rg.row_below h1 hb⟩,fun k e=>?_⟩;obtain ⟨a,b,c⟩:=h.off k e;refine ⟨fun hf=>?_,b,Nat.lt_of_lt_of_le c hb.size⟩
 rcases hf with hf | hf
 ·exact a hf
 ·omega
theorem RwI.shape (h:RwI F M w v l):∃ a c,v=.slice a l.length c:=by
 obtain ⟨B,h0,h1⟩:=h.own;exact Rg.row_shape h1
theorem RwI.push (h:RwI F M W v l) (hF:∀ k,F k→k<W.heap.size) (hM:∀ k,M k→k<W.heap.size) (x:Int) (hn:l.length<1000000) (ty:TypeId) :
  ∃ a c X,(Builtin.append_ #[25,25] ty #[v,.slice (some ⟨W.heap.size,0,none⟩) 1 1]).run Tryz.prog (W.alloc (.cells #[.int .i64 x] 3))=.ok (.slice a (l.length+1) c) X∧RwI F M X (.slice a (l.length+1) c) (l++[x])∧Rg.Kp (fun k=>v.ownBlock=some k) W X∧(∀ k,(Value.slice a (l.length+1) c).ownBlock=some k→v.ownBlock=some k∨W.heap.size≤k):=by
 obtain ⟨B,h0,h1⟩:=h.own;have hb:Below W.heap.size W (W.alloc (.cells #[.int .i64 x] 3)):=(Below.refl _ _).alloc (Nat.le_refl _) _
 have e2:(W.alloc (.cells #[.int .i64 x] 3)).heap.size=W.heap.size+1:=by simp
 have c0:(W.alloc (.cells #[.int .i64 x] 3)).cell? ⟨W.heap.size,0,none⟩=some (.int .i64 x):=by rw [Rg.cellNew]; rfl
 have h':=Rg.row_below h1 hb;generalize W.alloc (.cells #[.int .i64 x] 3)=W1 at *;obtain ⟨v',X,r1,r2,r3,r4,a,c,rfl⟩:=app_run (P:=Tryz.prog) slInts ty h' (by omega) W.heap.size 1 (u:=.int .i64 x) c0 rfl hn;have hk:Rg.Kp (fun k=>v.ownBlock=some k) W X:=Rg.Kp.trans (M:=fun k=>v.ownBlock=some k) ((Rg.Kp.of_below hb).weak fun _=>False.elim) (Rg.Kp.of_grown r3 fun _ e=>e) (fun _ _ e=>e)
 refine ⟨a,c,X,r1,⟨⟨B,Nat.le_trans h0 hk.size,by rw [List.length_append,List.map_append]; exact r2⟩,fun k e=>?_⟩,hk,fun k e=>by
  rcases r4 with r4 | r4
  ·exact .inl (by rw [← r4]; exact e)
  ·rw [r4] at e
   injection e with e
   exact .inr (by omega)⟩
 have hlt:=(World.ownsRow.lt r2 k e).2
 rcases r4 with r4 | r4
 ·obtain ⟨q1,q2,_⟩:=h.off k (by rw [← r4]; exact e)
  exact ⟨q1,q2,hlt⟩
 ·rw [r4] at e
  injection e with e
  exact ⟨fun hf=>by have:=hF k hf; omega,fun hm=>by have:=hM k hm; omega,hlt⟩
theorem RwI.ints (h:RwI F M w v l) (hl:l.length≤1000000000):Rg.Ints w v l:=by
 obtain ⟨B,h0,h1⟩:=h.own;exact Rg.Ints.of_row h1 hl
def flat3 (S:List Stp):List Value:=S.flatMap fun s=>[.int .i64 s.1,.int .i64 s.2.1,.int .i64 s.2.2]
theorem flat3_snoc (S:List Stp) (s:Stp):flat3 (S++[s])=flat3 S++[.int .i64 s.1,.int .i64 s.2.1,.int .i64 s.2.2]:=by unfold flat3; rw [List.flatMap_append]; simp
theorem flat3_at (S:List Stp):∀ (i:Nat) (h:i<S.length),(flat3 S)[i*3]?=some (.int .i64 S[i].1)∧(flat3 S)[i*3+1]?=some (.int .i64 S[i].2.1)∧(flat3 S)[i*3+2]?=some (.int .i64 S[i].2.2):=by
 induction S with
 | nil=>intro i h; cases h
 | cons z S ih =>
  intro i h;have e:flat3 (z :: S)=[.int .i64 z.1,.int .i64 z.2.1,.int .i64 z.2.2]++flat3 S:=rfl
  cases i with
  | zero=>rw [e]; exact ⟨rfl,rfl,rfl⟩
  | succ i =>
   have:=ih i (by simpa using h);rw [e,List.getElem?_append_right (by simp; omega),List.getElem?_append_right (by simp; omega),List.getElem?_append_right (by simp; omega)]
   have e1:(i+1)*3 - [Value.int .i64 z.1,.int .i64 z.2.1,.int .i64 z.2.2].length=i*3:=by simp; omega
   have e2:(i+1)*3+1 - [Value.int .i64 z.1,.int .i64 z.2.1,.int .i64 z.2.2].length=i*3+1:=by simp; omega
   have e3:(i+1)*3+2 - [Value.int .i64 z.1,.int .i64 z.2.1,.int .i64 z.2.2].length=i*3+2:=by simp; omega
   rw [e1,e2,e3];exact this
def Own3 (B:Nat) (w:World) (v:Value) (S:List Stp):Prop:=w.ownsRow B 51 3 v S.length (flat3 S)
theorem Own3.nil (B:Nat) (w:World):Own3 B w (.slice none 0 0) []:=World.ownsRow_nil _ _ _ _
theorem Own3.shape {T:List Stp} (h:Own3 B w v T):∃ a c,v=.slice a T.length c∧T.length≤c:=by
 obtain ⟨_,h2⟩:=h
 rcases h2 with ⟨h3,h4⟩ | ⟨g,cap,cur,h3,_,_,h5,_⟩
 ·exact ⟨none,0,by rw [h3,h4],by omega⟩
 ·exact ⟨_,cap,h3,h5⟩
theorem Own3.lt {B:Nat} {w:World} {v:Value} {T:List Stp} (h:Own3 B w v T):∀ k,v.ownBlock=some k→B≤k∧k<w.heap.size:=fun k e=>World.ownsRow.lt h k e
theorem Own3.kp {T:List Stp} (h:Own3 B w v T) (hk:Rg.Kp M w w') (hM:∀ k,M k→v.ownBlock≠some k):Own3 B w' v T:=rowKp h hk hM
theorem Own3.at {T:List Stp} (h:Own3 B w v T) {i:Nat} (hi:i<T.length):∃ g c,v=.slice (some ⟨g,0,none⟩) T.length c∧g<w.heap.size∧w.cell? ⟨g,i*3,none⟩=some (.int .i64 T[i].1)∧w.cell? ⟨g,i*3+1,none⟩=some (.int .i64 T[i].2.1)∧w.cell? ⟨g,i*3+2,none⟩=some (.int .i64 T[i].2.2):=by
 obtain ⟨h1,h2⟩:=h
 rcases h2 with ⟨h3,h4⟩ | ⟨g,cap,cur,h3,hB,hc,h5,h6,h7,h8⟩
 ·omega
 ·have hl:cur.toList.take (T.length*3)=flat3 T:=h8
  obtain ⟨q1,q2,q3⟩:=flat3_at T i hi;refine ⟨g,cap,h3,(Array.getElem?_eq_some_iff.1 hc).1,?_,?_,?_⟩
  ·rw [cell_of_row w _ _ _ _ _ hc,← Array.getElem?_toList,← q1,← hl,List.getElem?_take_of_lt (by omega)]
  ·rw [cell_of_row w _ _ _ _ _ hc,← Array.getElem?_toList,← q2,← hl,List.getElem?_take_of_lt (by omega)]
  ·rw [cell_of_row w _ _ _ _ _ hc,← Array.getElem?_toList,← q3,← hl,List.getElem?_take_of_lt (by omega)]
theorem Own3.sta {T:List Stp} (h:Own3 B w v T):StA w v T:=by
 obtain ⟨a,c,hs,hc⟩:=h.shape;refine ⟨a,c,hs,fun h0=>?_⟩;obtain ⟨g,c',e,hg,_⟩:=h.at h0;rw [hs] at e;simp only [Value.slice.injEq,true_and] at e;obtain ⟨rfl,rfl⟩:=e;refine ⟨g,0,rfl,hg,fun i hi=>?_⟩;obtain ⟨g',c',e,_,h1,h2⟩:=h.at hi;rw [hs] at e;simp only [Value.slice.injEq,Option.some.injEq,Addr.mk.injEq,and_true,true_and] at e;obtain ⟨rfl,rfl⟩:=e;rw [Nat.zero_add];exact ⟨h1,h2⟩
theorem run_build1St (X:World) (a b c:Int):(Instr.buildSlice 36 1 #[(0,.agg #[.int .i64 a,.int .i64 b,.int .i64 c])]).run Tryz.prog X=.ok (.slice (some ⟨X.heap.size,0,none⟩) 1 1) (X.alloc (.cells #[.int .i64 a,.int .i64 b,.int .i64 c] 51)):=by
 obtain ⟨i0,hi,hz0,hz1,hz2⟩:=info_parts infoSt;refine run_buildSlice X 36 51 1 _ _ i0 _ Tryz.underlying36 hi hz0 (by rw [hz1]; decide) (by rw [hz1]; decide) ?_;generalize (fun x=>((Value.agg #[.int .i64 0,.int .i64 0,.int .i64 0]).cells)[x % (Value.agg #[.int .i64 0,.int .i64 0,.int .i64 0]).cells.size]!)=f;rw [hz1];have h1:Array.range (1*3)=#[0,1,2]:=rfl;simp [Instr.fill,Value.cells,h1]
theorem Own3.push {T:List Stp} (h:Own3 B W v T) (hB:B≤W.heap.size) (z:Stp) (hn:T.length<1000000) (ty:TypeId) :
  ∃ a c X,(Builtin.append_ #[36,36] ty #[v,.slice (some ⟨W.heap.size,0,none⟩) 1 1]).run Tryz.prog (W.alloc (.cells #[.int .i64 z.1,.int .i64 z.2.1,.int .i64 z.2.2] 51))=.ok (.slice a (T.length+1) c) X∧Own3 B X (.slice a (T.length+1) c) (T++[z])∧Rg.Kp (fun k=>v.ownBlock=some k) W X∧(∀ k,(Value.slice a (T.length+1) c).ownBlock=some k→v.ownBlock=some k∨W.heap.size≤k):=by
 have hb:Below W.heap.size W (W.alloc (.cells #[.int .i64 z.1,.int .i64 z.2.1,.int .i64 z.2.2] 51)):=(Below.refl _ _).alloc (Nat.le_refl _) _;obtain ⟨i0,hi,hz0,hz1,hz2⟩:=info_parts infoSt;have h':=Rg.row_below h hb
 have e2:(W.alloc (.cells #[.int .i64 z.1,.int .i64 z.2.1,.int .i64 z.2.2] 51)).heap.size=W.heap.size+1:=by simp
 have c0:(W.alloc (.cells #[.int .i64 z.1,.int .i64 z.2.1,.int .i64 z.2.2] 51)).cell? ⟨W.heap.size,0,none⟩=some (.int .i64 z.1):=by rw [Rg.cellNew]; rfl
 have c1:(W.alloc (.cells #[.int .i64 z.1,.int .i64 z.2.1,.int .i64 z.2.2] 51)).cell? ⟨W.heap.size,1,none⟩=some (.int .i64 z.2.1):=by rw [Rg.cellNew]; rfl
 have c2:(W.alloc (.cells #[.int .i64 z.1,.int .i64 z.2.1,.int .i64 z.2.2] 51)).cell? ⟨W.heap.size,2,none⟩=some (.int .i64 z.2.2):=by rw [Rg.cellNew]; rfl
 generalize W.alloc (.cells #[.int .i64 z.1,.int .i64 z.2.1,.int .i64 z.2.2] 51)=W1 at *
 obtain ⟨v',X,hr,h2,h3,h4,h5⟩:=run_append_own_at (P:=Tryz.prog) W1 B 36 ty 51 i0 (.agg #[.int .i64 0,.int .i64 0,.int .i64 0]) 3 24 Tryz.underlying36 hi hz0 hz1 hz2 rfl (by decide) v T.length (flat3 T) h' ⟨W.heap.size,0,none⟩ 1 1 [.int .i64 z.1,.int .i64 z.2.1,.int .i64 z.2.2] rfl (fun j x hj=>by
  match j,hj with
  | 0,hj=>simp at hj; subst hj; exact c0
  | 1,hj=>simp at hj; subst hj; exact c1
  | 2,hj=>simp at hj; subst hj; exact c2) (by simp [Value.oneCell']) (by unfold maxLen; omega) (by omega) (by omega)
 have hs2:Own3 B X v' (T++[z]):=by
  unfold Own3;rw [flat3_snoc,List.length_append];exact h2
 obtain ⟨a,c,hs,hc⟩:=hs2.shape;rw [List.length_append,List.length_singleton] at hs hc;subst hs;refine ⟨a,c,X,hr,hs2,Rg.Kp.trans (M:=fun k=>v.ownBlock=some k) ((Rg.Kp.of_below hb).weak fun _=>False.elim) (Rg.Kp.of_grown h3 fun _ e=>e) (fun _ _ e=>e),fun k e=>?_⟩
 rcases h5 with h5 | h5
 ·exact .inl (by rw [← h5]; exact e)
 ·rw [h5] at e
  injection e with e
  exact .inr (by omega)
structure Cw (W:World) (b o:Nat) (v:Value):Prop where
 c:W.cell? ⟨b,o,none⟩=some v
 f:W.frozen? ⟨b,o,none⟩=false
 lt:b<W.heap.size
theorem frozen_of_block {b o:Nat} (h:w'.heap[b]?=w.heap[b]?):w'.frozen? ⟨b,o,none⟩=w.frozen? ⟨b,o,none⟩:=by
 simp only [World.frozen?,h]
theorem Cw.kp {b o:Nat} (h:Cw w b o v) (hk:Rg.Kp M w w') (hM:¬ M b):Cw w' b o v:=by
 have e:=hk.block b h.lt hM;exact ⟨(World.cell?_of_block (a:=⟨b,o,none⟩) e).trans h.c,(frozen_of_block e).trans h.f,Nat.lt_of_lt_of_le h.lt hk.size⟩
theorem Cw.set {b o:Nat} (h:Cw w b o v) (u:Value):Cw (w.setCell ⟨b,o,none⟩ u) b o u :=
 ⟨World.cell?_setCell_same (h:=h.c) ..,by rw [World.frozen?_setCell]; exact h.f,by rw [World.setCell]; simpa using h.lt⟩
theorem Cw.other {b o b2 o2:Nat} (h:Cw w b o v) (u:Value) (hne:b≠b2∨o≠o2):Cw (w.setCell ⟨b2,o2,none⟩ u) b o v :=
 ⟨(World.cell?_setCell_other (h:=by intro e; injection e with e1 e2; omega) ..).trans h.c,by rw [World.frozen?_setCell]; exact h.f,by rw [World.setCell]; simpa using h.lt⟩
structure EnAt (F:Nat→Prop) (W:World) (e:En) (xv yv:Value):Prop where
 c0:Cw W e.b 0 xv
 c1:Cw W e.b 1 yv
 c2:Cw W e.b 2 (.int .i64 ((e.at_:Nat):Int))
 c3:Cw W e.b 3 (.int .i64 e.by_)
 x:FP F W xv e.x
 y:FP F W yv (Ma.invN e.x)
theorem EnAt.kp {F M:Nat→Prop} {w w':World} {e:En} {xv yv:Value} (h:EnAt F w e xv yv) (hk:Rg.Kp M w w') (hM:¬ M e.b) (hF:∀ k,F k→¬ M k):EnAt F w' e xv yv :=
 ⟨h.c0.kp hk hM,h.c1.kp hk hM,h.c2.kp hk hM,h.c3.kp hk hM,Rg.FI.kp h.x hk hF,Rg.FI.kp h.y hk hF⟩
theorem EnAt.mono {F F':Nat→Prop} {w:World} {e:En} {xv yv:Value} (h:EnAt F w e xv yv) (hF:∀ k,F k→F' k):EnAt F' w e xv yv:=⟨h.c0,h.c1,h.c2,h.c3,h.x.mono hF,h.y.mono hF⟩
abbrev enP (e:En):Value:=.pointer (some ⟨e.b,0,none⟩)
def tbS (tb mb:Nat) (es:List En) (sv lv:Value) (k:Nat):Prop:=k=tb∨k=mb∨sv.ownBlock=some k∨lv.ownBlock=some k∨∃ e∈es,e.b=k
structure Ds (tb mb:Nat) (es:List En) (sv lv:Value):Prop where
 tm:tb≠mb
 st:sv.ownBlock≠some tb
 sm:sv.ownBlock≠some mb
 lt:lv.ownBlock≠some tb
 lm:lv.ownBlock≠some mb
 sl:∀ k,sv.ownBlock=some k→lv.ownBlock≠some k
 et:∀ e∈es,e.b≠tb
 em:∀ e∈es,e.b≠mb
 es_:∀ e∈es,sv.ownBlock≠some e.b
 el:∀ e∈es,lv.ownBlock≠some e.b
 nb:(es.map (·.b)).Nodup
structure TbM (B:Nat) (F:Nat→Prop) (tb mb N:Nat) (W:World) (S:List Stp) (nx:Nat) (es ms ls:List En) (sv lv:Value):Prop where
 Flt:∀ k,F k→k<W.heap.size
 h0:Cw W tb 0 sv
 h1:Cw W tb 1 (.int .i64 ((nx:Nat):Int))
 h2:Cw W tb 2 (.int .i64 ((N:Nat):Int))
 h3:Cw W tb 3 (.map (some mb))
 h4:Cw W tb 4 lv
 st:Own3 B W sv S
 ls:W.ownsRow B 110 1 lv ls.length (ls.map enP)
 mp:Jm.KMap W mb (ms.map fun e=>((e.i,e.p),enP e))
 en:∀ e∈es,∃ xv yv,EnAt F W e xv yv
 nF:∀ k,F k→¬ tbS tb mb es sv lv k
 ds:Ds tb mb es sv lv
 sz:B≤W.heap.size
theorem TbM.Mlt {tb:Nat} {S:List Stp} {es ms ls:List En} {lv:Value} (h:TbM B F tb mb N W S nx es ms ls sv lv):∀ k,tbS tb mb es sv lv k→k<W.heap.size:=by
 rintro k (rfl | rfl | e | e | ⟨e,he,rfl⟩)
 ·exact h.h0.lt
 ·exact h.mp.lt
 ·exact (h.st.lt k e).2
 ·exact (World.ownsRow.lt h.ls k e).2
 ·obtain ⟨xv,yv,q⟩:=h.en e he
  exact q.c0.lt
theorem TbM.kp {M:Nat→Prop} {B:Nat} {F:Nat→Prop} {tb mb N:Nat} {W W':World} {S:List Stp} {nx:Nat} {es ms ls:List En} {sv lv:Value} (h:TbM B F tb mb N W S nx es ms ls sv lv) (hk:Rg.Kp M W W') (hM:∀ k,M k→¬ tbS tb mb es sv lv k) (hF:∀ k,F k→¬ M k):TbM B F tb mb N W' S nx es ms ls sv lv:=by
 have ht:¬ M tb:=fun e=>hM _ e (.inl rfl);refine ⟨fun k hf=>Nat.lt_of_lt_of_le (h.Flt k hf) hk.size,h.h0.kp hk ht,h.h1.kp hk ht,h.h2.kp hk ht,h.h3.kp hk ht,h.h4.kp hk ht,h.st.kp hk (fun k hm e=>hM k hm (.inr (.inr (.inl e)))),rowKp h.ls hk (fun k hm e=>hM k hm (.inr (.inr (.inr (.inl e))))),h.mp.of_block (hk.block mb h.mp.lt (fun e=>hM _ e (.inr (.inl rfl)))),fun e he=>?_,h.nF,h.ds,Nat.le_trans h.sz hk.size⟩;obtain ⟨xv,yv,q⟩:=h.en e he;exact ⟨xv,yv,q.kp hk (fun hm=>hM _ hm (.inr (.inr (.inr (.inr ⟨e,he,rfl⟩))))) hF⟩
theorem TbM.below {tb:Nat} {S:List Stp} {es ms ls:List En} {lv:Value} (h:TbM B F tb mb N W S nx es ms ls sv lv) (hb:Below W.heap.size W W'):TbM B F tb mb N W' S nx es ms ls sv lv :=
 h.kp (M:=fun _=>False) (Rg.Kp.of_below hb) (fun _=>False.elim) (fun _ _=>id)
theorem TbM.mono {B:Nat} {F F':Nat→Prop} {tb mb N:Nat} {W:World} {S:List Stp} {nx:Nat} {es ms ls:List En} {sv lv:Value} (h:TbM B F tb mb N W S nx es ms ls sv lv) (hF:∀ k,F k→F' k) (h1:∀ k,F' k→k<W.heap.size) (h2:∀ k,F' k→¬ tbS tb mb es sv lv k):TbM B F' tb mb N W S nx es ms ls sv lv :=
 ⟨h1,h.h0,h.h1,h.h2,h.h3,h.h4,h.st,h.ls,h.mp,fun e he=>by
  obtain ⟨xv,yv,q⟩:=h.en e he
  exact ⟨xv,yv,q.mono hF⟩,h2,h.ds,h.sz⟩
theorem TbM.up {tb:Nat} {S:List Stp} {es ms ls:List En} {lv:Value} (h:TbM B F tb mb N W S nx es ms ls sv lv) (hb:Below W.heap.size W W'):TbM B (Fup F W W') tb mb N W' S nx es ms ls sv lv:=by
 have hl:=h.Mlt;refine (h.below hb).mono (fun k=>.inl) (fun k hk=>?_) (fun k hk hm=>?_)
 ·rcases hk with hk | hk
  ·exact Nat.lt_of_lt_of_le (h.Flt k hk) hb.size
  ·exact hk.2
 ·rcases hk with hk | hk
  ·exact h.nF k hk hm
  ·have:=hl k hm; omega
theorem TbM.next {tb:Nat} {S:List Stp} {es ms ls:List En} {lv:Value} (h:TbM B F tb mb N W S nx es ms ls sv lv) (k:Nat):TbM B F tb mb N (W.setCell ⟨tb,1,none⟩ (.int .i64 ((k:Nat):Int))) S k es ms ls sv lv∧Rg.Kp (tbS tb mb es sv lv) W (W.setCell ⟨tb,1,none⟩ (.int .i64 ((k:Nat):Int))):=by
 have hk:Rg.Kp (fun z=>z=tb) W (W.setCell ⟨tb,1,none⟩ (.int .i64 ((k:Nat):Int))):=Rg.Kp.of_setCell rfl;refine ⟨⟨fun k hf=>Nat.lt_of_lt_of_le (h.Flt k hf) hk.size,h.h0.other _ (.inr (by decide)),h.h1.set _,h.h2.other _ (.inr (by decide)),h.h3.other _ (.inr (by decide)),h.h4.other _ (.inr (by decide)),h.st.kp hk (fun z hz e=>h.ds.st (hz▸e)),rowKp h.ls hk (fun z hz e=>h.ds.lt (hz▸e)),h.mp.of_block (hk.block mb h.mp.lt (fun e=>h.ds.tm e.symm)),fun e he=>?_,h.nF,h.ds,Nat.le_trans h.sz hk.size⟩,hk.weak fun z hz=>.inl hz⟩;obtain ⟨xv,yv,q⟩:=h.en e he;exact ⟨xv,yv,q.kp hk (h.ds.et e he) (fun z hf hz=>h.nF z hf (.inl hz))⟩
theorem TbM.push {B:Nat} {F:Nat→Prop} {tb mb N:Nat} {W:World} {S:List Stp} {nx:Nat} {es ms ls:List En} {sv lv:Value} (h:TbM B F tb mb N W S nx es ms ls sv lv) (z:Stp) (hn:S.length<1000000) (ty:TypeId) :
  ∃ a c X,(Builtin.append_ #[36,36] ty #[sv,.slice (some ⟨W.heap.size,0,none⟩) 1 1]).run Tryz.prog (W.alloc (.cells #[.int .i64 z.1,.int .i64 z.2.1,.int .i64 z.2.2] 51))=.ok (.slice a (S.length+1) c) X∧Cw X tb 0 sv∧Rg.Kp (fun k=>sv.ownBlock=some k) W X ∧
   TbM B F tb mb N (X.setCell ⟨tb,0,none⟩ (.slice a (S.length+1) c)) (S++[z]) nx es ms ls (.slice a (S.length+1) c) lv∧Rg.Kp (tbS tb mb es sv lv) W (X.setCell ⟨tb,0,none⟩ (.slice a (S.length+1) c))∧(∀ k,tbS tb mb es (.slice a (S.length+1) c) lv k→tbS tb mb es sv lv k∨W.heap.size≤k):=by
 obtain ⟨a,c,X,r1,r2,r3,r4⟩:=h.st.push h.sz z hn ty;have h0:Cw X tb 0 sv:=h.h0.kp r3 h.ds.st;have hk:Rg.Kp (fun z=>z=tb) X (X.setCell ⟨tb,0,none⟩ (.slice a (S.length+1) c)):=Rg.Kp.of_setCell rfl;generalize hv:Value.slice a (S.length+1) c=v at *;have hkk:Rg.Kp (fun k=>k=tb∨sv.ownBlock=some k) W (X.setCell ⟨tb,0,none⟩ v):=Rg.Kp.trans (r3.weak fun _=>.inr) (hk.weak (M':=fun k=>k=tb∨sv.ownBlock=some k) fun _=>.inl) (fun _ _ e=>e);have hml:=h.Mlt
 have hds:Ds tb mb es v lv:=by
  have key:∀ q,q<W.heap.size→sv.ownBlock≠some q→v.ownBlock≠some q:=fun q hq h1 e=>by
   rcases r4 q e with e2 | e2
   ·exact h1 e2
   ·omega
  refine ⟨h.ds.tm,key _ h.h0.lt h.ds.st,key _ h.mp.lt h.ds.sm,h.ds.lt,h.ds.lm,fun k e e2=>?_,h.ds.et,h.ds.em,fun e he=>key _ ?_ (h.ds.es_ e he),h.ds.el,h.ds.nb⟩
  ·exact key k (World.ownsRow.lt h.ls k e2).2 (fun e3=>h.ds.sl k e3 e2) e
  ·obtain ⟨xv,yv,q⟩:=h.en e he
   exact q.c0.lt
 have hst:∀ k,tbS tb mb es v lv k→tbS tb mb es sv lv k∨W.heap.size≤k:=by
  rintro k (rfl | rfl | e | e | e)
  ·exact .inl (.inl rfl)
  ·exact .inl (.inr (.inl rfl))
  ·exact (r4 k e).imp (fun e=>.inr (.inr (.inl e))) id
  ·exact .inl (.inr (.inr (.inr (.inl e))))
  ·exact .inl (.inr (.inr (.inr (.inr e))))
 have hX:X.heap.size=(X.setCell ⟨tb,0,none⟩ v).heap.size:=by simp [World.setCell]
 subst hv;refine ⟨a,c,X,r1,h0,r3,?_,hkk.weak fun k hk=>?_,hst⟩
 ·refine ⟨fun k hf=>Nat.lt_of_lt_of_le (h.Flt k hf) hkk.size,h0.set _,(h.h1.kp r3 h.ds.st).other _ (.inr (by decide)),(h.h2.kp r3 h.ds.st).other _ (.inr (by decide)),(h.h3.kp r3 h.ds.st).other _ (.inr (by decide)),(h.h4.kp r3 h.ds.st).other _ (.inr (by decide)),r2.kp hk (fun z hz e=>hds.st (hz▸e)),rowKp h.ls hkk (fun z hz e=>?_),h.mp.of_block (hkk.block mb h.mp.lt (fun e=>e.elim (fun e=>h.ds.tm e.symm) h.ds.sm)),fun e he=>?_,fun k hf hm=>?_,hds,Nat.le_trans h.sz hkk.size⟩
  ·rcases hz with hz | hz
   ·exact h.ds.lt (hz▸e)
   ·exact h.ds.sl z hz e
  ·obtain ⟨xv,yv,q⟩:=h.en e he
   exact ⟨xv,yv,q.kp hkk (fun hz=>hz.elim (h.ds.et e he) (h.ds.es_ e he)) (fun z hf hz=>h.nF z hf (hz.elim .inl (fun e=>.inr (.inr (.inl e)))))⟩
  ·rcases hst k hm with q | q
   ·exact h.nF k hf q
   ·have:=h.Flt k hf; omega
 ·exact hk.elim .inl (fun e=>.inr (.inr (.inl e)))
theorem TbM.by {tb:Nat} {S:List Stp} {es:List En} {lv:Value} (h:TbM B F tb mb N W S nx es es es sv lv) {e:En} (he:e∈es) (k:Int) :
  TbM B F tb mb N (W.setCell ⟨e.b,3,none⟩ (.int .i64 k)) S nx (setBy es e.b k) (setBy es e.b k) (setBy es e.b k) sv lv∧Rg.Kp (tbS tb mb es sv lv) W (W.setCell ⟨e.b,3,none⟩ (.int .i64 k))∧(∀ q,tbS tb mb (setBy es e.b k) sv lv q↔tbS tb mb es sv lv q):=by
 have hk:Rg.Kp (fun z=>z=e.b) W (W.setCell ⟨e.b,3,none⟩ (.int .i64 k)):=Rg.Kp.of_setCell rfl
 have hmem:∀ q,(∃ e0∈setBy es e.b k,e0.b=q)↔∃ e0∈es,e0.b=q:=fun q=>by
  have h1:(∃ e0∈setBy es e.b k,e0.b=q)↔q∈(setBy es e.b k).map (·.b):=by rw [List.mem_map]
  have h2:(∃ e0∈es,e0.b=q)↔q∈es.map (·.b):=by rw [List.mem_map]
  rw [h1,h2,setBy_b]
 have hset:∀ q,tbS tb mb (setBy es e.b k) sv lv q↔tbS tb mb es sv lv q:=fun q=>by
  unfold tbS; rw [hmem]
 have hP:(setBy es e.b k).map enP=es.map enP:=by
  unfold setBy;rw [List.map_map];refine List.map_congr_left fun e0 _=>?_
  dsimp only [Function.comp]
  split <;> rfl
 have hM:((setBy es e.b k).map fun e=>((e.i,e.p),enP e))=es.map fun e=>((e.i,e.p),enP e):=by
  unfold setBy;rw [List.map_map];refine List.map_congr_left fun e0 _=>?_
  dsimp only [Function.comp]
  split <;> rfl
 have hin:∀ e0∈setBy es e.b k,∃ e1∈es,e0.b=e1.b:=fun e0 h0=>by
  obtain ⟨e1,h1,h2⟩:=(hmem e0.b).1 ⟨e0,h0,rfl⟩;exact ⟨e1,h1,h2.symm⟩
 refine ⟨⟨fun k hf=>Nat.lt_of_lt_of_le (h.Flt k hf) hk.size,h.h0.other _ (.inl fun q=>h.ds.et e he q.symm),h.h1.other _ (.inl fun q=>h.ds.et e he q.symm),h.h2.other _ (.inl fun q=>h.ds.et e he q.symm),h.h3.other _ (.inl fun q=>h.ds.et e he q.symm),h.h4.other _ (.inl fun q=>h.ds.et e he q.symm),h.st.kp hk (fun z hz q=>h.ds.es_ e he (hz▸q)),?_,?_,fun e0 h0=>?_,fun q hf hm=>h.nF q hf ((hset q).1 hm),?_,Nat.le_trans h.sz hk.size⟩,hk.weak fun z hz=>.inr (.inr (.inr (.inr ⟨e,he,hz.symm⟩))),hset⟩
 ·rw [hP,setBy_len]; exact rowKp h.ls hk (fun z hz q=>h.ds.el e he (hz▸q))
 ·rw [hM]; exact h.mp.of_block (hk.block mb h.mp.lt (fun q=>h.ds.em e he q.symm))
 ·have h0':=h0
  unfold Go.Proofs.YtdnmmibchbceeaaGreat.setBy at h0;obtain ⟨e1,h1,h2⟩:=List.mem_map.1 h0;obtain ⟨xv,yv,q⟩:=h.en e1 h1
  by_cases hb:e1.b=e.b
  ·rw [if_pos hb] at h2
   subst h2;refine ⟨xv,yv,⟨?_,?_,?_,?_,Rg.FI.kp q.x hk (fun z hf hz=>h.nF z hf (.inr (.inr (.inr (.inr ⟨e,he,hz.symm⟩))))),Rg.FI.kp q.y hk (fun z hf hz=>h.nF z hf (.inr (.inr (.inr (.inr ⟨e,he,hz.symm⟩)))))⟩⟩
   ·exact q.c0.other _ (.inr (by decide))
   ·exact q.c1.other _ (.inr (by decide))
   ·exact q.c2.other _ (.inr (by decide))
   ·have:=q.c3.set (.int .i64 k)
    rw [hb] at this;show Cw _ e1.b 3 _;rw [hb]; exact this
  ·rw [if_neg hb] at h2
   subst h2;exact ⟨xv,yv,q.kp hk hb (fun z hf hz=>h.nF z hf (.inr (.inr (.inr (.inr ⟨e,he,hz.symm⟩)))))⟩
 ·refine ⟨h.ds.tm,h.ds.st,h.ds.sm,h.ds.lt,h.ds.lm,h.ds.sl,fun e0 h0=>?_,fun e0 h0=>?_,fun e0 h0=>?_,fun e0 h0=>?_,by rw [setBy_b]; exact h.ds.nb⟩
  ·obtain ⟨e1,h1,h2⟩:=hin e0 h0; rw [h2]; exact h.ds.et e1 h1
  ·obtain ⟨e1,h1,h2⟩:=hin e0 h0; rw [h2]; exact h.ds.em e1 h1
  ·obtain ⟨e1,h1,h2⟩:=hin e0 h0; rw [h2]; exact h.ds.es_ e1 h1
  ·obtain ⟨e1,h1,h2⟩:=hin e0 h0; rw [h2]; exact h.ds.el e1 h1
theorem TbM.box {tb:Nat} {S:List Stp} {es:List En} {lv:Value} (h:TbM B F tb mb N W S nx es es es sv lv) {x:List Nat} {yv:Value} (hx:FP F W xv x) (hy:FP F W yv (Ma.invN x)) (i p k:Nat) (t:TypeId) :
  TbM B F tb mb N (W.alloc (.cells #[xv,yv,.int .i64 ((k:Nat):Int),.int .i64 (-1)] t)) S nx (es++[⟨W.heap.size,i,p,x,k,-1⟩]) es es sv lv∧(∀ q,tbS tb mb (es++[⟨W.heap.size,i,p,x,k,-1⟩]) sv lv q→tbS tb mb es sv lv q∨W.heap.size≤q):=by
 have hb:Below W.heap.size W (W.alloc (.cells #[xv,yv,.int .i64 ((k:Nat):Int),.int .i64 (-1)] t)):=(Below.refl _ _).alloc (Nat.le_refl _) _;have hk:Rg.Kp (fun _=>False) W (W.alloc (.cells #[xv,yv,.int .i64 ((k:Nat):Int),.int .i64 (-1)] t)):=Rg.Kp.of_below hb;have hl:=h.Mlt
 have hq:∀ q,tbS tb mb (es++[⟨W.heap.size,i,p,x,k,-1⟩]) sv lv q→tbS tb mb es sv lv q∨W.heap.size≤q:=by
  rintro q (e | e | e | e | ⟨e,he,hq⟩)
  ·exact .inl (.inl e)
  ·exact .inl (.inr (.inl e))
  ·exact .inl (.inr (.inr (.inl e)))
  ·exact .inl (.inr (.inr (.inr (.inl e))))
  ·rcases List.mem_append.1 he with he | he
   ·exact .inl (.inr (.inr (.inr (.inr ⟨e,he,hq⟩))))
   ·rw [List.mem_singleton] at he; subst he; exact .inr (by rw [← hq]; exact Nat.le_refl _)
 have h':=h.below hb;have hcell:∀ o (u:Value),(#[xv,yv,Value.int .i64 ((k:Nat):Int),.int .i64 (-1)]:Array Value)[o]?=some u→Cw (W.alloc (.cells #[xv,yv,.int .i64 ((k:Nat):Int),.int .i64 (-1)] t)) W.heap.size o u:=fun o u e=>⟨by rw [Rg.cellNew]; exact e,frozenNewN _ _ _ o _,by simp⟩;have hlt:∀ q,(∃ e∈es,e.b=q)→q<W.heap.size:=fun q e=>hl q (.inr (.inr (.inr (.inr e))));refine ⟨⟨h'.Flt,h'.h0,h'.h1,h'.h2,h'.h3,h'.h4,h'.st,h'.ls,h'.mp,fun e he=>?_,fun q hf hm=>?_,?_,h'.sz⟩,hq⟩
 ·rcases List.mem_append.1 he with he | he
  ·exact h'.en e he
  ·rw [List.mem_singleton] at he; subst he
   exact ⟨xv,yv,hcell 0 _ rfl,hcell 1 _ rfl,hcell 2 _ rfl,hcell 3 _ rfl,Rg.FI.kp hx hk (fun _ _=>id),Rg.FI.kp hy hk (fun _ _=>id)⟩
 ·rcases hq q hm with e | e
  ·exact h.nF q hf e
  ·have:=h.Flt q hf; omega
 ·have hne:∀ q,tbS tb mb es sv lv q→q≠W.heap.size:=fun q e e2=>by have:=hl q e; omega
  have key:∀ {P:En→Prop},(∀ e∈es,P e)→P ⟨W.heap.size,i,p,x,k,-1⟩→∀ e∈es++[⟨W.heap.size,i,p,x,k,-1⟩],P e:=fun h1 h2 e he=>by
   rcases List.mem_append.1 he with he | he
   ·exact h1 e he
   ·rw [List.mem_singleton] at he; subst he; exact h2
  refine ⟨h.ds.tm,h.ds.st,h.ds.sm,h.ds.lt,h.ds.lm,h.ds.sl,key h.ds.et (fun e=>hne tb (.inl rfl) e.symm),key h.ds.em (fun e=>hne mb (.inr (.inl rfl)) e.symm),key h.ds.es_ (fun e=>hne _ (.inr (.inr (.inl e))) rfl),key h.ds.el (fun e=>hne _ (.inr (.inr (.inr (.inl e)))) rfl),?_⟩;rw [List.map_append,List.map_singleton];refine List.nodup_append.2 ⟨h.ds.nb,by simp,fun a ha b hb e=>?_⟩;rw [List.mem_singleton] at hb;obtain ⟨e0,h0,h1⟩:=List.mem_map.1 ha;have:=hlt a ⟨e0,h0,h1⟩;rw [hb] at e;simp at e;omega
theorem ktT:Jm.KT Tryz.prog 101 106 3 110 (.pointer none):=⟨Tryz.underlying101,Tryz.underlying106,Tryz.underlying3,fun w=>by kernel_rfl,fun w=>by kernel_rfl⟩
theorem look_fnd (es:List En) (i p:Nat):Jm.look (es.map fun e=>((e.i,e.p),enP e)) (i,p)=(fnd es i p).map enP:=by
 unfold Jm.look fnd;rw [List.find?_map,Option.map_map];rfl
theorem TbM.put {tb:Nat} {S:List Stp} {es ms ls:List En} {lv:Value} (h:TbM B F tb mb N W S nx es ms ls sv lv) {e:En} (hno:fnd ms e.i e.p=none) :
  ∃ W',(Instr.mapUpdate 101 (.map (some mb)) (Jm.keyV (e.i,e.p)) (enP e)).run Tryz.prog W=.ok () W'∧TbM B F tb mb N W' S nx es (ms++[e]) ls sv lv∧Rg.Kp (tbS tb mb es sv lv) W W':=by
 obtain ⟨W',r1,r2,r3⟩:=Jm.update_new ktT h.mp (e.i,e.p) (by rw [look_fnd,hno]; rfl) (enP e);have hk:Rg.Kp (fun k=>k=mb) W W':=Rg.Kp.of_grown r3 (fun k e=>(Option.some.inj e).symm);refine ⟨W',r1,⟨fun k hf=>Nat.lt_of_lt_of_le (h.Flt k hf) hk.size,h.h0.kp hk h.ds.tm,h.h1.kp hk h.ds.tm,h.h2.kp hk h.ds.tm,h.h3.kp hk h.ds.tm,h.h4.kp hk h.ds.tm,h.st.kp hk (fun z hz e=>h.ds.sm (hz▸e)),rowKp h.ls hk (fun z hz e=>h.ds.lm (hz▸e)),by rw [List.map_append]; exact r2,fun e he=>?_,h.nF,h.ds,Nat.le_trans h.sz hk.size⟩,hk.weak fun z hz=>.inr (.inl hz)⟩;obtain ⟨xv,yv,q⟩:=h.en e he;exact ⟨xv,yv,q.kp hk (h.ds.em e he) (fun z hf hz=>h.nF z hf (.inr (.inl hz)))⟩
theorem slEnts:Rg.SlT Tryz.prog 102 110 (.pointer none) 8:=⟨Tryz.underlying102,by kernel_rfl,rfl,by decide⟩
theorem TbM.list {tb:Nat} {S:List Stp} {es ms ls:List En} {lv:Value} (h:TbM B F tb mb N W S nx es ms ls sv lv) (e:En) (hn:ls.length<1000000) (ty:TypeId) :
  ∃ a c X,(Builtin.append_ #[102,102] ty #[lv,.slice (some ⟨W.heap.size,0,none⟩) 1 1]).run Tryz.prog (W.alloc (.cells #[enP e] 110))=.ok (.slice a (ls.length+1) c) X∧Cw X tb 4 lv∧Rg.Kp (fun k=>lv.ownBlock=some k) W X ∧
   TbM B F tb mb N (X.setCell ⟨tb,4,none⟩ (.slice a (ls.length+1) c)) S nx es ms (ls++[e]) sv (.slice a (ls.length+1) c)∧Rg.Kp (tbS tb mb es sv lv) W (X.setCell ⟨tb,4,none⟩ (.slice a (ls.length+1) c))∧(∀ k,tbS tb mb es sv (.slice a (ls.length+1) c) k→tbS tb mb es sv lv k∨W.heap.size≤k):=by
 have hb:Below W.heap.size W (W.alloc (.cells #[enP e] 110)):=(Below.refl _ _).alloc (Nat.le_refl _) _
 have e2:(W.alloc (.cells #[enP e] 110)).heap.size=W.heap.size+1:=by simp
 obtain ⟨v',X,r1,r2,q3,q4,a,c,rfl⟩:=app_run (P:=Tryz.prog) slEnts ty (Rg.row_below h.ls hb) (Nat.le_trans h.sz hb.size) W.heap.size 1 (u:=enP e) (by rw [Rg.cellNew]; rfl) rfl hn;have r3:Rg.Kp (fun k=>lv.ownBlock=some k) W X:=Rg.Kp.trans (M:=fun k=>lv.ownBlock=some k) ((Rg.Kp.of_below hb).weak fun _=>False.elim) (Rg.Kp.of_grown q3 fun _ e=>e) (fun _ _ e=>e)
 have r4:∀ k,(Value.slice a (ls.length+1) c).ownBlock=some k→lv.ownBlock=some k∨W.heap.size≤k:=fun k e=>by
  rcases q4 with q4 | q4
  ·exact .inl (by rw [← q4]; exact e)
  ·rw [q4] at e
   injection e with e
   exact .inr (by omega)
 have h4:Cw X tb 4 lv:=h.h4.kp r3 h.ds.lt;have hk:Rg.Kp (fun z=>z=tb) X (X.setCell ⟨tb,4,none⟩ (.slice a (ls.length+1) c)):=Rg.Kp.of_setCell rfl;generalize hv:Value.slice a (ls.length+1) c=v at *;have hkk:Rg.Kp (fun k=>k=tb∨lv.ownBlock=some k) W (X.setCell ⟨tb,4,none⟩ v):=Rg.Kp.trans (r3.weak fun _=>.inr) (hk.weak (M':=fun k=>k=tb∨lv.ownBlock=some k) fun _=>.inl) (fun _ _ e=>e)
 have hds:Ds tb mb es sv v:=by
  have key:∀ q,q<W.heap.size→lv.ownBlock≠some q→v.ownBlock≠some q:=fun q hq h1 e=>by
   rcases r4 q e with e2 | e2
   ·exact h1 e2
   ·omega
  refine ⟨h.ds.tm,h.ds.st,h.ds.sm,key _ h.h0.lt h.ds.lt,key _ h.mp.lt h.ds.lm,fun k e e2=>?_,h.ds.et,h.ds.em,h.ds.es_,fun e he=>key _ ?_ (h.ds.el e he),h.ds.nb⟩
  ·exact key k (h.st.lt k e).2 (h.ds.sl k e) e2
  ·obtain ⟨xv,yv,q⟩:=h.en e he
   exact q.c0.lt
 have hst:∀ k,tbS tb mb es sv v k→tbS tb mb es sv lv k∨W.heap.size≤k:=by
  rintro k (rfl | rfl | e | e | e)
  ·exact .inl (.inl rfl)
  ·exact .inl (.inr (.inl rfl))
  ·exact .inl (.inr (.inr (.inl e)))
  ·exact (r4 k e).imp (fun e=>.inr (.inr (.inr (.inl e)))) id
  ·exact .inl (.inr (.inr (.inr (.inr e))))
 subst hv;refine ⟨a,c,X,r1,h4,r3,?_,hkk.weak fun k hk=>?_,hst⟩
 ·refine ⟨fun k hf=>Nat.lt_of_lt_of_le (h.Flt k hf) hkk.size,(h.h0.kp r3 h.ds.lt).other _ (.inr (by decide)),(h.h1.kp r3 h.ds.lt).other _ (.inr (by decide)),(h.h2.kp r3 h.ds.lt).other _ (.inr (by decide)),(h.h3.kp r3 h.ds.lt).other _ (.inr (by decide)),h4.set _,h.st.kp hkk (fun z hz e=>?_),?_,h.mp.of_block (hkk.block mb h.mp.lt (fun e=>e.elim (fun e=>h.ds.tm e.symm) h.ds.lm)),fun e he=>?_,fun k hf hm=>?_,hds,Nat.le_trans h.sz hkk.size⟩
  ·rcases hz with hz | hz
   ·exact h.ds.st (hz▸e)
   ·exact h.ds.sl z e hz
  ·rw [List.length_append,List.map_append]; exact rowKp r2 hk (fun z hz e=>hds.lt (hz▸e))
  ·obtain ⟨xv,yv,q⟩:=h.en e he
   exact ⟨xv,yv,q.kp hkk (fun hz=>hz.elim (h.ds.et e he) (h.ds.el e he)) (fun z hf hz=>h.nF z hf (hz.elim .inl (fun e=>.inr (.inr (.inr (.inl e))))))⟩
  ·rcases hst k hm with q | q
   ·exact h.nF k hf q
   ·have:=h.Flt k hf; omega
 ·exact hk.elim .inl (fun e=>.inr (.inr (.inr (.inl e))))
theorem TbM.gw {tb:Nat} {S:List Stp} {es ms ls:List En} {lv:Value} (h:TbM B F tb mb N W S nx es ms ls sv lv) (hk:Rg.Kp (tbS tb mb es sv lv) W W') (hM:∀ k,M' k→tbS tb mb es sv lv k∨W.heap.size≤k):Gw F (tbS tb mb es sv lv) W F M' W' :=
 Gw.put (fun k hf=>⟨h.Flt k hf,h.nF k hf⟩) hk hM
theorem TbM.at {tb:Nat} {S:List Stp} {es ms ls:List En} {lv:Value} (h:TbM B F tb mb N W S nx es ms ls sv lv) {i:Nat} (hi:i<ls.length):∃ g c,lv=.slice (some ⟨g,0,none⟩) ls.length c∧CL W g (0+i) (enP ls[i]):=by
 obtain ⟨g,c,u,e1,e2,e3,e4⟩:=row_of h.ls hi;rw [List.getElem?_map,List.getElem?_eq_getElem hi] at e3;obtain rfl:enP ls[i]=u:=Option.some.inj e3;exact ⟨g,c,e1,e2,e4⟩
end Go.Proofs.YtdnmmibchbceeaaGreat

namespace Go.Proofs.YtdnmmibchbceeaaGreat
open Go.RowKit
open Go.Proofs
open Go.Proofs.Ob
attribute [local irreducible] Go.Calls
theorem recF0 (b:Nat) (w:World):(Instr.fieldAt 100 (.pointer (some ⟨b,0,none⟩)) 0).run Tryz.prog w=.ok (.pointer (some ⟨b,0,none⟩)) w:=by kernel_rfl
theorem recF1 (b:Nat) (w:World):(Instr.fieldAt 100 (.pointer (some ⟨b,0,none⟩)) 1).run Tryz.prog w=.ok (.pointer (some ⟨b,1,none⟩)) w:=by kernel_rfl
theorem tblF0 (b:Nat) (w:World):(Instr.fieldAt 104 (.pointer (some ⟨b,0,none⟩)) 0).run Tryz.prog w=.ok (.pointer (some ⟨b,0,none⟩)) w:=by kernel_rfl
theorem tblF1 (b:Nat) (w:World):(Instr.fieldAt 104 (.pointer (some ⟨b,0,none⟩)) 1).run Tryz.prog w=.ok (.pointer (some ⟨b,2,none⟩)) w:=by kernel_rfl
theorem tblF2 (b:Nat) (w:World):(Instr.fieldAt 104 (.pointer (some ⟨b,0,none⟩)) 2).run Tryz.prog w=.ok (.pointer (some ⟨b,3,none⟩)) w:=by kernel_rfl
theorem tblF3 (b:Nat) (w:World):(Instr.fieldAt 104 (.pointer (some ⟨b,0,none⟩)) 3).run Tryz.prog w=.ok (.pointer (some ⟨b,4,none⟩)) w:=by kernel_rfl
theorem enF0 (b:Nat) (w:World):(Instr.fieldAt 113 (.pointer (some ⟨b,0,none⟩)) 0).run Tryz.prog w=.ok (.pointer (some ⟨b,0,none⟩)) w:=by kernel_rfl
theorem enF1 (b:Nat) (w:World):(Instr.fieldAt 113 (.pointer (some ⟨b,0,none⟩)) 1).run Tryz.prog w=.ok (.pointer (some ⟨b,1,none⟩)) w:=by kernel_rfl
theorem enF2 (b:Nat) (w:World):(Instr.fieldAt 113 (.pointer (some ⟨b,0,none⟩)) 2).run Tryz.prog w=.ok (.pointer (some ⟨b,2,none⟩)) w:=by kernel_rfl
theorem enF3 (b:Nat) (w:World):(Instr.fieldAt 113 (.pointer (some ⟨b,0,none⟩)) 3).run Tryz.prog w=.ok (.pointer (some ⟨b,3,none⟩)) w:=by kernel_rfl
theorem exec_buildKy {o:Oper} {a:Act} {i j:Int} (x y:Operand) (ho:o.op=.build 106 #[(0,x),(1,y)]) (hx:a.eval x=.int .i64 i) (hy:a.eval y=.int .i64 j) :
  (execOp a.eval o).run Tryz.prog w=.ok (.value (.agg #[.int .i64 i,.int .i64 j])) w:=by
 unfold execOp;simp only [ho,Sem.run_bind,Sem.run_pure];simp only [List.map_toArray,List.map_cons,List.map_nil,hx,hy]
 have h:(Instr.build 106 #[(0,.int .i64 i),(1,.int .i64 j)]).run Tryz.prog w=.ok (.agg #[.int .i64 i,.int .i64 j]) w:=by kernel_rfl
 first | (rw [h]; rfl) | (erw [h]; rfl)
theorem exec_buildSi {o:Oper} {a:Act} {i j:Int} (x y:Operand) (ho:o.op=.build 51 #[(0,x),(1,y)]) (hx:a.eval x=.int .i64 i) (hy:a.eval y=.int .i64 j) :
  (execOp a.eval o).run Tryz.prog w=.ok (.value (.agg #[.int .i64 i,.int .i64 j,.int .i64 0])) w:=by
 unfold execOp;simp only [ho,Sem.run_bind,Sem.run_pure];simp only [List.map_toArray,List.map_cons,List.map_nil,hx,hy]
 have h:(Instr.build 51 #[(0,.int .i64 i),(1,.int .i64 j)]).run Tryz.prog w=.ok (.agg #[.int .i64 i,.int .i64 j,.int .i64 0]) w:=by kernel_rfl
 first | (rw [h]; rfl) | (erw [h]; rfl)
theorem exec_buildSm {o:Oper} {a:Act} {i j k:Int} (x y z:Operand) (ho:o.op=.build 51 #[(0,x),(1,y),(2,z)]) (hx:a.eval x=.int .i64 i) (hy:a.eval y=.int .i64 j) (hz:a.eval z=.int .i64 k) :
  (execOp a.eval o).run Tryz.prog w=.ok (.value (.agg #[.int .i64 i,.int .i64 j,.int .i64 k])) w:=by
 unfold execOp;simp only [ho,Sem.run_bind,Sem.run_pure];simp only [List.map_toArray,List.map_cons,List.map_nil,hx,hy,hz]
 have h:(Instr.build 51 #[(0,.int .i64 i),(1,.int .i64 j),(2,.int .i64 k)]).run Tryz.prog w=.ok (.agg #[.int .i64 i,.int .i64 j,.int .i64 k]) w:=by kernel_rfl
 first | (rw [h]; rfl) | (erw [h]; rfl)
theorem exec_buildEn {o:Oper} {a:Act} {a1 a2:Option Addr} {n1 n2 c1 c2:Nat} {i j:Int} (x y z u:Operand) (ho:o.op=.build 113 #[(0,x),(1,y),(2,z),(3,u)]) (hx:a.eval x=.slice a1 n1 c1) (hy:a.eval y=.slice a2 n2 c2) (hz:a.eval z=.int .i64 i) (hu:a.eval u=.int .i64 j) :
  (execOp a.eval o).run Tryz.prog w=.ok (.value (.agg #[.slice a1 n1 c1,.slice a2 n2 c2,.int .i64 i,.int .i64 j])) w:=by
 unfold execOp;simp only [ho,Sem.run_bind,Sem.run_pure];simp only [List.map_toArray,List.map_cons,List.map_nil,hx,hy,hz,hu]
 have h:(Instr.build 113 #[(0,.slice a1 n1 c1),(1,.slice a2 n2 c2),(2,.int .i64 i),(3,.int .i64 j)]).run Tryz.prog w=.ok (.agg #[.slice a1 n1 c1,.slice a2 n2 c2,.int .i64 i,.int .i64 j]) w:=by kernel_rfl
 first | (rw [h]; rfl) | (erw [h]; rfl)
theorem exec_buildRc {o:Oper} {a:Act} {i:Int} (x:Operand) (ho:o.op=.build 100 #[(1,x)]) (hx:a.eval x=.int .i64 i) :
  (execOp a.eval o).run Tryz.prog w=.ok (.value (.agg #[.slice none 0 0,.int .i64 i])) w:=by
 unfold execOp;simp only [ho,Sem.run_bind,Sem.run_pure];simp only [List.map_toArray,List.map_cons,List.map_nil,hx]
 have h:(Instr.build 100 #[(1,.int .i64 i)]).run Tryz.prog w=.ok (.agg #[.slice none 0 0,.int .i64 i]) w:=by kernel_rfl
 first | (rw [h]; rfl) | (erw [h]; rfl)
theorem exec_buildTb4 {o:Oper} {a:Act} {i j:Int} (x y z:Operand) (ho:o.op=.build 104 #[(0,x),(1,y),(2,z)]) (hx:a.eval x=.agg #[.slice none 0 0,.int .i64 i]) (hy:a.eval y=.int .i64 j) (hz:a.eval z=.map (some m)) :
  (execOp a.eval o).run Tryz.prog w=.ok (.value (.agg #[.slice none 0 0,.int .i64 i,.int .i64 j,.map (some m),.slice none 0 0])) w:=by
 unfold execOp;simp only [ho,Sem.run_bind,Sem.run_pure];simp only [List.map_toArray,List.map_cons,List.map_nil,hx,hy,hz]
 have h:(Instr.build 104 #[(0,.agg #[.slice none 0 0,.int .i64 i]),(1,.int .i64 j),(2,.map (some m))]).run Tryz.prog w=.ok (.agg #[.slice none 0 0,.int .i64 i,.int .i64 j,.map (some m),.slice none 0 0]) w:=by kernel_rfl
 first | (rw [h]; rfl) | (erw [h]; rfl)
theorem exec_pnilT {o:Oper} {a:Act} (x y:Operand) (ho:o.op=.binOp .eql 110 x y 110) (hx:a.eval x=.pointer none) (hy:a.eval y=.pointer none):(execOp a.eval o).run Tryz.prog w=.ok (.value (.bool true)) w:=by
 have h1:(binOp .eql 110 (.pointer none) (.pointer none)).run Tryz.prog w=.ok (.bool true) w:=by kernel_rfl
 have hg:(eqGuard .eql 110 x y (.pointer none) (.pointer none)).run Tryz.prog w=.ok () w:=by
  simp [eqGuard]
 unfold execOp;simp only [ho,hx,hy,Sem.run_bind,Sem.run_pure,hg,h1,Result.andThen_ok]
theorem exec_pnilF {o:Oper} {a:Act} {ad:Addr} (x y:Operand) (ho:o.op=.binOp .eql 110 x y 110) (hx:a.eval x=.pointer (some ad)) (hy:a.eval y=.pointer none):(execOp a.eval o).run Tryz.prog w=.ok (.value (.bool false)) w:=by
 have h1:(binOp .eql 110 (.pointer (some ad)) (.pointer none)).run Tryz.prog w=.ok (.bool false) w:=by kernel_rfl
 have hg:(eqGuard .eql 110 x y (.pointer (some ad)) (.pointer none)).run Tryz.prog w=.ok () w:=by
  simp [eqGuard]
 unfold execOp;simp only [ho,hx,hy,Sem.run_bind,Sem.run_pure,hg,h1,Result.andThen_ok]
theorem run_loadME {ad:Addr} (h:w.cell? ad=some v):(loadVar 101 ad).run Tryz.prog w=.ok v w:=by
 simp [loadVar,isAgg,run_underlying Tryz.underlying101,load];simp [Sem.run,h]
theorem infoP2:(Tryz.prog.info? 106).map (fun i=>(i.zero,i.size,i.bytes))=some (some (.agg #[.int .i64 0,.int .i64 0]),2,16):=by kernel_rfl
theorem run_loadP2 {b o:Nat} {x y:Value} (h0:W.cell? ⟨b,o,none⟩=some x) (h1:W.cell? ⟨b,o+1,none⟩=some y):(loadVar 106 ⟨b,o,none⟩).run Tryz.prog W=.ok (.agg #[x,y]) W:=by
 have hl:(loadCells ⟨b,o,none⟩ 2).run Tryz.prog W=.ok #[x,y] W :=
  run_loadCells_list (P:=Tryz.prog) W ⟨b,o,none⟩ [x,y] (fun j v hv=>by
   match j,hv with
   | 0,hv=>simp at hv; subst hv; exact h0
   | 1,hv=>simp at hv; subst hv; exact h1)
 have ha:(isAgg 106).run Tryz.prog W=.ok true W:=by kernel_rfl
 simp [loadVar,Sem.run_bind,ha,hl]
theorem exec_allocP2 {o:Oper} {a:Act} (ho:o.op=.alloc 106):(execOp a.eval o).run Tryz.prog w=.ok (.value (.pointer (some ⟨w.heap.size,0,none⟩))) (w.alloc (.cells #[.int .i64 0,.int .i64 0] 106)):=by
 obtain ⟨i0,hi,hz0,hz1,hz2⟩:=info_parts infoP2;unfold execOp;simp [ho,Instr.alloc,typeInfo,zeroValue,hi,hz0,newVar,Value.cells,Result.andThen];rfl
theorem run_storeP2 {b:Nat} (x y:Int) (h1:Cw w b 0 u1) (h2:Cw w b 1 u2) :
  (storeVar 106 ⟨b,0,none⟩ (.agg #[.int .i64 x,.int .i64 y])).run Tryz.prog w=.ok () ((w.setCell ⟨b,0,none⟩ (.int .i64 x)).setCell ⟨b,1,none⟩ (.int .i64 y)):=by
 obtain ⟨i0,hi,hz0,hz1,hz2⟩:=info_parts infoP2;have g2:=h2.other (.int .i64 x) (b2:=b) (o2:=0) (.inr (by decide))
 have ha0:(⟨b,0,none⟩:Addr).add 0=⟨b,0,none⟩:=by simp [Addr.add]
 have ha1:(⟨b,0,none⟩:Addr).add 1=⟨b,1,none⟩:=by simp [Addr.add]
 simp [storeVar,sizeOf,typeInfo,hi,hz1,Value.cells,storeCells,store,ha0,ha1];simp [Sem.run,h1.c,h1.f,g2.c,g2.f]
structure Pw (W:World) (b:Nat) (x y:Int):Prop where
 c0:Cw W b 0 (.int .i64 x)
 c1:Cw W b 1 (.int .i64 y)
theorem Pw.new (W:World):Pw (W.alloc (.cells #[.int .i64 0,.int .i64 0] 106)) W.heap.size 0 0 :=
 ⟨⟨by rw [Rg.cellNew]; rfl,frozenNewN _ _ _ 0 _,by simp⟩,⟨by rw [Rg.cellNew]; rfl,frozenNewN _ _ _ 1 _,by simp⟩⟩
theorem Pw.kp {M:Nat→Prop} {w w':World} {b:Nat} {x y:Int} (h:Pw w b x y) (hk:Rg.Kp M w w') (hM:¬ M b):Pw w' b x y:=⟨h.c0.kp hk hM,h.c1.kp hk hM⟩
theorem Pw.below {b:Nat} {x y:Int} (h:Pw w b x y) (hb:Below w.heap.size w w'):Pw w' b x y:=h.kp (M:=fun _=>False) (Rg.Kp.of_below hb) id
theorem Pw.set {w:World} {b:Nat} {x y:Int} (h:Pw w b x y) (u v:Int):Pw ((w.setCell ⟨b,0,none⟩ (.int .i64 u)).setCell ⟨b,1,none⟩ (.int .i64 v)) b u v :=
 ⟨(h.c0.set _).other _ (.inr (by decide)),(h.c1.other _ (.inr (by decide))).set _⟩
theorem Pw.run {w:World} {b:Nat} {x y:Int} (h:Pw w b x y) (u v:Int):(storeVar 106 ⟨b,0,none⟩ (.agg #[.int .i64 u,.int .i64 v])).run Tryz.prog w=.ok () ((w.setCell ⟨b,0,none⟩ (.int .i64 u)).setCell ⟨b,1,none⟩ (.int .i64 v)):=run_storeP2 u v h.c0 h.c1
theorem Pw.load {b:Nat} {x y:Int} (h:Pw w b x y):(loadVar 106 ⟨b,0,none⟩).run Tryz.prog w=.ok (.agg #[.int .i64 x,.int .i64 y]) w:=run_loadP2 h.c0.c h.c1.c
theorem results_sift {fn:Func} {t u p v:Go.Tmp} (h:fn.results=#[.tmp t,.tmp u,.cell p 106,.tmp v]) (tmps:Array Value) {b:Nat} {x y:Int} {vt vu vv:Value} (hp:tmps.getD p undef=.pointer (some ⟨b,0,none⟩)) (ht:tmps.getD t undef=vt) (hu:tmps.getD u undef=vu) (hv:tmps.getD v undef=vv) (h1:Pw w b x y) :
  (results fn tmps).run Tryz.prog w=.ok (.tuple #[vt,vu,.agg #[.int .i64 x,.int .i64 y],vv]) w:=by
 simp only [Array.getD_eq_getD_getElem?] at hp ht hu hv;simp only [results,h];simp [Result.andThen,hp,ht,hu,hv,asAddr,h1.load]
theorem infoTbp:(Tryz.prog.info? 98).map (fun i=>(i.zero,i.size,i.bytes))=some (some (.pointer none),1,8):=by kernel_rfl
theorem exec_allocTbp {o:Oper} {a:Act} (ho:o.op=.alloc 98):(execOp a.eval o).run Tryz.prog w=.ok (.value (.pointer (some ⟨w.heap.size,0,none⟩))) (w.alloc (.cells #[.pointer none] 98)):=by
 obtain ⟨i0,hi,hz0,hz1,hz2⟩:=info_parts infoTbp;unfold execOp;simp [ho,Instr.alloc,typeInfo,zeroValue,hi,hz0,newVar,newRow,Value.cells,Result.andThen]
theorem run_storeTbp {b o:Nat} (v:Option Addr) (h:w.cell? ⟨b,o,none⟩=some u) (hf:w.frozen? ⟨b,o,none⟩=false) :
  (storeVar 98 ⟨b,o,none⟩ (.pointer v)).run Tryz.prog w=.ok () (w.setCell ⟨b,o,none⟩ (.pointer v)):=by
 obtain ⟨i0,hi,hz0,hz1,hz2⟩:=info_parts infoTbp
 have h0:(⟨b,o,none⟩:Addr).add 0=⟨b,o,none⟩:=by simp [Addr.add]
 simp [storeVar,sizeOf,typeInfo,hi,hz1,Value.cells,storeCells,store,h0];simp [Sem.run,h,hf]
theorem infoStepsV:(Tryz.prog.info? 36).map (fun i=>(i.zero,i.size,i.bytes))=some (some (.slice none 0 0),1,24):=by kernel_rfl
theorem infoEntsV:(Tryz.prog.info? 102).map (fun i=>(i.zero,i.size,i.bytes))=some (some (.slice none 0 0),1,24):=by kernel_rfl
theorem infoEnp:(Tryz.prog.info? 110).map (fun i=>(i.zero,i.size,i.bytes))=some (some (.pointer none),1,8):=by kernel_rfl
theorem run_build1E (X:World) (ad:Addr):(Instr.buildSlice 102 1 #[(0,.pointer (some ad))]).run Tryz.prog X=.ok (.slice (some ⟨X.heap.size,0,none⟩) 1 1) (X.alloc (.cells #[.pointer (some ad)] 110)):=by
 obtain ⟨i0,hi,hz0,hz1,hz2⟩:=info_parts infoEnp;refine run_buildSlice X 102 110 1 _ _ i0 _ Tryz.underlying102 hi hz0 (by rw [hz1]; decide) (by rw [hz1]; decide) ?_;generalize (fun x=>((Value.pointer none).cells)[x % (Value.pointer none).cells.size]!)=f;rw [hz1];have h1:Array.range (1*1)=#[0]:=rfl;simp [Instr.fill,Value.cells,h1]
theorem infoIntB:(Tryz.prog.info? 3).map (fun i=>(i.zero,i.size,i.bytes))=some (some (.int .i64 0),1,8):=by kernel_rfl
theorem run_build1N (X:World) (i:Int):(Instr.buildSlice 25 1 #[(0,.int .i64 i)]).run Tryz.prog X=.ok (.slice (some ⟨X.heap.size,0,none⟩) 1 1) (X.alloc (.cells #[.int .i64 i] 3)):=by
 obtain ⟨i0,hi,hz0,hz1,hz2⟩:=info_parts infoIntB;refine run_buildSlice X 25 3 1 _ _ i0 _ Tryz.underlying25 hi hz0 (by rw [hz1]; decide) (by rw [hz1]; decide) ?_;generalize (fun x=>((Value.int .i64 0).cells)[x % (Value.int .i64 0).cells.size]!)=f;rw [hz1];have h1:Array.range (1*1)=#[0]:=rfl;simp [Instr.fill,Value.cells,h1]
theorem run_build2N (X:World) (i j:Int):(Instr.buildSlice 25 2 #[(0,.int .i64 i),(1,.int .i64 j)]).run Tryz.prog X=.ok (.slice (some ⟨X.heap.size,0,none⟩) 2 2) (X.alloc (.cells #[.int .i64 i,.int .i64 j] 3)):=by
 obtain ⟨i0,hi,hz0,hz1,hz2⟩:=info_parts infoIntB;refine run_buildSlice X 25 3 2 _ _ i0 _ Tryz.underlying25 hi hz0 (by rw [hz1]; decide) (by rw [hz1]; decide) ?_;generalize (fun x=>((Value.int .i64 0).cells)[x % (Value.int .i64 0).cells.size]!)=f;rw [hz1];have h1:Array.range (2*1)=#[0,1]:=rfl;simp [Instr.fill,Value.cells,h1]
theorem RwI.new (hF:∀ k,F k→k<W.heap.size) (hM:∀ k,M k→k<W.heap.size) (l:List Int) (hl:l.length≤1000) (t:TypeId) (ht:t=3):RwI F M (W.alloc (.cells (l.map (Value.int .i64)).toArray t)) (.slice (some ⟨W.heap.size,0,none⟩) l.length l.length) l:=by
 subst ht;refine ⟨⟨W.heap.size,by simp,⟨by simp,.inr ⟨W.heap.size,l.length,(l.map (Value.int .i64)).toArray,rfl,Nat.le_refl _,by unfold World.alloc; simp,Nat.le_refl _,by unfold maxLen; omega,by simp,by simpa using List.take_of_length_le (by simp)⟩⟩⟩,fun k e=>?_⟩;have e:some W.heap.size=some k:=e
 injection e with e
 subst e;exact ⟨fun h=>Nat.lt_irrefl _ (hF _ h),fun h=>Nat.lt_irrefl _ (hM _ h),by simp⟩
theorem exec_slice1E {o:Oper} {a:Act} {r:Value} (x:Operand) (ho:o.op=.slice 102 x (some (.const (.int .i64 1))) none none) (hx:a.eval x=v) (hr:(Instr.sliceAt 102 v (some (.int .i64 1)) none none).run Tryz.prog w=.ok r w) :
  (execOp a.eval o).run Tryz.prog w=.ok (.value r) w:=by
 unfold execOp;simp only [ho,hx,Sem.run_bind,Sem.run_pure,Option.map]
 first | (rw [hr]; rfl) | (erw [hr]; rfl) | simp [hr]
end Go.Proofs.YtdnmmibchbceeaaGreat

namespace Go.Proofs.YtdnmmibchbceeaaGreat
open Go.RowKit
open Go.Proofs
open Go.Proofs.Ob
attribute [local irreducible] Go.Calls Go.wpList
theorem Decl0 (args:Array Value) (w:World):(callFunc 69 args).run Tryz.prog w=.ok (.enter 69 args) w:=by kernel_rfl
theorem eb_inj:∀ {es:List En},(es.map (·.b)).Nodup→∀ {e e':En},e∈es→e'∈es→e.b=e'.b→e=e'
 | [],_,e,e',h,_,_=>by cases h
 | a :: es,hn,e,e',h,h',hb=>by
  rw [List.map_cons,List.nodup_cons] at hn
  rcases List.mem_cons.1 h with h | h <;> rcases List.mem_cons.1 h' with h' | h'
  ·rw [h,h']
  ·exact absurd (List.mem_map.2 ⟨e',h',by rw [← hb,h]⟩:a.b∈es.map (·.b)) hn.1
  ·exact absurd (List.mem_map.2 ⟨e,h,by rw [hb,h']⟩:a.b∈es.map (·.b)) hn.1
  ·exact eb_inj hn.2 h h' hb
theorem setBy_all (es:List En) (b:Nat) (k:Int):(setBy es b k).map (fun e=>(e.b,e.i,e.p,e.x,e.at_))=es.map fun e=>(e.b,e.i,e.p,e.x,e.at_):=by
 unfold setBy;rw [List.map_map];refine List.map_congr_left fun e _=>?_
 dsimp only [Function.comp]
 split <;> rfl
def RecP (B:Nat) (F:Nat→Prop) (tb mb N:Nat) (S:List Stp) (nx:Nat) (es:List En) (sv lv:Value) (z:Stp) (w:World) (e:Ending) (w':World):Prop :=
 ∃ F' sv',e=.returned (.int .i64 ((nx:Nat):Int))∧TbM B F' tb mb N w' (S++[z]) (nx+1) es es es sv' lv∧Gw F (tbS tb mb es sv lv) w F' (tbS tb mb es sv' lv) w'
theorem record_any {tb:Nat} {S:List Stp} {es:List En} {lv:Value} (h:TbM B F tb mb N w S nx es es es sv lv) (x y z:Int) (hn:S.length<100000) (hx:nx<1000000) :
  Calls Tryz.prog 69 #[.pointer (some ⟨tb,0,none⟩),.agg #[.int .i64 x,.int .i64 y,.int .i64 z]] w (RecP B F tb mb N S nx es sv lv (x,y,z) w):=by
 obtain ⟨M0,hM0⟩:∃ M,Hid (M=tbS tb mb es sv lv):=⟨_,ι rfl⟩;have T:=ι h;have K:=ι (Gw.refl (M:=tbS tb mb es sv lv) h.Flt);have HN:=ι hn;have hb:Below w.heap.size w (w.alloc (.cells #[.int .i64 x,.int .i64 y,.int .i64 z] 51)):=(Below.refl _ _).alloc (Nat.le_refl _) _;replace T:=ι (T.out.up hb);replace K:=ι (K.out.up hb);have A0:=ι (show CF (Fup F w (w.alloc (.cells #[.int .i64 x,.int .i64 y,.int .i64 z] 51))) (w.alloc (.cells #[.int .i64 x,.int .i64 y,.int .i64 z] 51)) w.heap.size 0 (.int .i64 x) from ⟨by rw [Rg.cellNew]; rfl,.inr ⟨Nat.le_refl _,by simp⟩,by simp⟩);have A1:=ι (show CF (Fup F w (w.alloc (.cells #[.int .i64 x,.int .i64 y,.int .i64 z] 51))) (w.alloc (.cells #[.int .i64 x,.int .i64 y,.int .i64 z] 51)) w.heap.size 1 (.int .i64 y) from ⟨by rw [Rg.cellNew]; rfl,.inr ⟨Nat.le_refl _,by simp⟩,by simp⟩);have A2:=ι (show CF (Fup F w (w.alloc (.cells #[.int .i64 x,.int .i64 y,.int .i64 z] 51))) (w.alloc (.cells #[.int .i64 x,.int .i64 y,.int .i64 z] 51)) w.heap.size 2 (.int .i64 z) from ⟨by rw [Rg.cellNew]; rfl,.inr ⟨Nat.le_refl _,by simp⟩,by simp⟩)
 clear h hn hb;obtain ⟨xb,hxb⟩:∃ b,b=w.heap.size:=⟨_,rfl⟩
 go_enter Tryz.func69,Tryz.ntmps69
 go_upto_region 0 with (fail);refine Rg.wl ?_;refine Rg.lr 3 (Rg.exec_box _ _ rfl rfl) ?_;go_frame;refine Rg.la 4 (.int .i64 0) ?_;go_frame;generalize Fup F w (w.alloc (.cells #[.int .i64 x,.int .i64 y,.int .i64 z] 51))=F1 at *;rw [← hxb] at A0 A1 A2;generalize w.alloc (.cells #[.int .i64 x,.int .i64 y,.int .i64 z] 51)=w0 at *;rw [← hxb];clear hxb;go_upto_region 1 with (fail);have hV0:Below w0.heap.size w0 w0.drew:=(Below.refl _ _).drew;replace T:=ι (T.out.up hV0);replace A0:=ι (A0.out.up hV0);replace A1:=ι (A1.out.up hV0);replace A2:=ι (A2.out.up hV0);replace K:=ι (K.out.up hV0);generalize Fup F1 w0 w0.drew=F2 at *;clear hV0;refine Rg.Any.begin (S:=Rg.Both 8 (fun W:World=>W.cell? ⟨tb,0,none⟩=some sv∧W.cell? ⟨xb,0,none⟩=some (.int .i64 x)∧W.cell? ⟨xb,1,none⟩=some (.int .i64 y)∧W.cell? ⟨xb,2,none⟩=some (.int .i64 z)) (fun _=>True)) mix ?_
 generalize w0.drew=w1 at *;have hS:∀ (l:Array Bool) W,(fun W:World=>W.cell? ⟨tb,0,none⟩=some sv∧W.cell? ⟨xb,0,none⟩=some (.int .i64 x)∧W.cell? ⟨xb,1,none⟩=some (.int .i64 y)∧W.cell? ⟨xb,2,none⟩=some (.int .i64 z)) W→Rg.Both 8 (fun W:World=>W.cell? ⟨tb,0,none⟩=some sv∧W.cell? ⟨xb,0,none⟩=some (.int .i64 x)∧W.cell? ⟨xb,1,none⟩=some (.int .i64 y)∧W.cell? ⟨xb,2,none⟩=some (.int .i64 z)) (fun _=>True) l W:=fun l W h=>⟨.inr h,trivial⟩;have hS2:∀ (l:Array Bool) W,l.getD 8 false=true→Rg.Both 8 (fun W:World=>W.cell? ⟨tb,0,none⟩=some sv∧W.cell? ⟨xb,0,none⟩=some (.int .i64 x)∧W.cell? ⟨xb,1,none⟩=some (.int .i64 y)∧W.cell? ⟨xb,2,none⟩=some (.int .i64 z)) (fun _=>True) l W:=fun l W h=>⟨.inl h,trivial⟩;have hI:(fun W:World=>W.cell? ⟨tb,0,none⟩=some sv∧W.cell? ⟨xb,0,none⟩=some (.int .i64 x)∧W.cell? ⟨xb,1,none⟩=some (.int .i64 y)∧W.cell? ⟨xb,2,none⟩=some (.int .i64 z)) w1:=⟨T.out.h0.c,A0.out.cell,A1.out.cell,A2.out.cell⟩
 refine Rg.tm 0 8 (.pointer (some ⟨tb,0,none⟩)) 5 (hS _ _ hI) ?_;go_frame;refine Rg.tm 1 8 (.pointer (some ⟨tb,0,none⟩)) 6 (hS _ _ hI) ?_;go_frame;refine Rg.tg 2 8 (.pointer (some ⟨tb,0,none⟩)) 7 rfl rfl (.inl ⟨rfl,fun w _=>exec_nil _ rfl rfl⟩) (hS _ _ hI) ?_;go_frame;refine Rg.tg 3 8 (.pointer (some ⟨tb,0,none⟩)) 8 rfl rfl (.inl ⟨rfl,fun w _=>exec_field _ rfl rfl (recF0 _ _)⟩) (hS _ _ hI) ?_;go_frame;refine Rg.tT 4 8 (sv) 9 rfl rfl (Rg.yc ⟨tb,0,none⟩ (fun W hW=>Rg.run_loadSl _ _ Tryz.underlying36 hW.1)) (hS _ _ hI) ?_;go_frame;refine Rg.tT 5 8 ((.agg #[.int .i64 x,.int .i64 y,.int .i64 z])) 10 rfl rfl (Rg.yc ⟨xb,0,none⟩ (fun W hW=>run_loadSt hW.2.1 hW.2.2.1 hW.2.2.2)) (hS _ _ hI) ?_;go_frame;obtain ⟨a9,c9,X9,r1,hc9,hk9,hT9,hkp9,hst9⟩:=T.out.push (x,y,z) (by have:=HN.out; omega) 36;have hba:Below w1.heap.size w1 (w1.alloc (.cells #[.int .i64 x,.int .i64 y,.int .i64 z] 51)):=(Below.refl _ _).alloc (Nat.le_refl _) _
 have hq0:sv.ownBlock≠some xb:=fun e=>T.out.nF xb A0.out.inF (.inr (.inr (.inl e)));have hI2_m:=(show (fun W:World=>W.cell? ⟨tb,0,none⟩=some sv∧W.cell? ⟨xb,0,none⟩=some (.int .i64 x)∧W.cell? ⟨xb,1,none⟩=some (.int .i64 y)∧W.cell? ⟨xb,2,none⟩=some (.int .i64 z)) (w1.alloc (.cells #[.int .i64 x,.int .i64 y,.int .i64 z] 51)) from ⟨(hba.cell (p:=⟨tb,0,none⟩) T.out.h0.lt).trans T.out.h0.c,(hba.cell (p:=⟨xb,0,none⟩) A0.out.lt).trans A0.out.cell,(hba.cell (p:=⟨xb,1,none⟩) A1.out.lt).trans A1.out.cell,(hba.cell (p:=⟨xb,2,none⟩) A2.out.lt).trans A2.out.cell⟩);refine Rg.aR 6 11 rfl rfl (Rg.exec_buildSlice _ _ _ rfl (.agg #[.int .i64 x,.int .i64 y,.int .i64 z]) rfl (run_build1St w1 x y z)) (hS _ _ hI2_m) ?_;go_frame;have hI3_m:=(show (fun W:World=>W.cell? ⟨tb,0,none⟩=some sv∧W.cell? ⟨xb,0,none⟩=some (.int .i64 x)∧W.cell? ⟨xb,1,none⟩=some (.int .i64 y)∧W.cell? ⟨xb,2,none⟩=some (.int .i64 z)) X9 from ⟨hc9.c,(World.cell?_of_block (a:=⟨xb,0,none⟩) (hk9.block xb A0.out.lt hq0)).trans A0.out.cell,(World.cell?_of_block (a:=⟨xb,1,none⟩) (hk9.block xb A1.out.lt hq0)).trans A1.out.cell,(World.cell?_of_block (a:=⟨xb,2,none⟩) (hk9.block xb A2.out.lt hq0)).trans A2.out.cell⟩)
 refine Rg.aR 7 12 rfl rfl (Rg.exec_append _ _ _ rfl rfl rfl r1) (hS _ _ hI3_m) ?_;go_frame;refine Rg.aR 8 13 rfl rfl (exec_nil _ rfl rfl) (hS2 _ _ rfl) ?_;go_frame;refine Rg.tg 9 8 (.pointer (some ⟨tb,0,none⟩)) 14 rfl rfl (.inl ⟨rfl,fun w _=>exec_field _ rfl rfl (recF0 _ _)⟩) (hS2 _ _ rfl) ?_;go_frame;refine Rg.Any.one (i:=10) (by kernel_rfl) (Rg.Any.runSkip none rfl rfl rfl (Rg.exec_store _ _ _ rfl _ rfl _ rfl (Rg.run_storeSl _ infoStepsV hc9.c hc9.f)) (hS2 _ _ rfl) ?_);go_frame;refine Rg.Any.done (by kernel_rfl) ?_ _;clear hS2;clear hS hI3_m;replace K:=ι (K.out.trans (T.out.gw hkp9 hst9));replace T:=ι hT9;clear hT9 hkp9 hst9 hk9 hc9 r1 A0 A1 A2;generalize X9.setCell ⟨tb,0,none⟩ (.slice a9 (S.length+1) c9)=W5 at *;generalize Value.slice a9 (S.length+1) c9=sv9 at *;go_upto_region 2 with (fail);refine Rg.wl ?_;refine Rg.lm 15 (.pointer (some ⟨tb,0,none⟩)) ?_;go_frame
 refine Rg.lr 16 (exec_nil _ rfl rfl) ?_;go_frame;refine Rg.lr 17 (exec_field _ rfl rfl (recF1 _ _)) ?_;go_frame;refine Rg.lr 18 (Rg.lo (.int .i64 ((nx:Nat):Int)) ⟨tb,1,none⟩ (run_loadInt T.out.h1.c)) ?_;go_frame;refine Rg.lr 19 (Rg.bn (.int .i64 (((nx+1):Nat):Int)) .add (h:=b_add _ (by omega) (by omega))) ?_;go_frame;refine Rg.lr 20 (exec_nil _ rfl rfl) ?_;go_frame;refine Rg.lr 21 (exec_field _ rfl rfl (recF1 _ _)) ?_;go_frame;obtain ⟨hT2,hkp2⟩:=T.out.next (nx+1);refine Rg.list_skip none rfl rfl (Rg.exec_store _ _ _ rfl _ rfl _ rfl (run_storeInt _ T.out.h1.c T.out.h1.f)) ?_;go_frame;replace K:=ι (K.out.trans (T.out.gw hkp2 (fun _=>.inl)));replace T:=ι hT2;clear hT2 hkp2;generalize W5.setCell ⟨tb,1,none⟩ (.int .i64 ((nx+1:Nat):Int))=W6 at *;go_upto_region 3 with (fail);refine Rg.wl ?_;refine Rg.lm 22 (.pointer (some ⟨tb,0,none⟩)) ?_;go_frame;refine Rg.lr 23 (exec_nil _ rfl rfl) ?_;go_frame
 refine Rg.lr 24 (exec_field _ rfl rfl (recF1 _ _)) ?_;go_frame;refine Rg.lr 25 (Rg.lo (.int .i64 (((nx+1):Nat):Int)) ⟨tb,1,none⟩ (run_loadInt T.out.h1.c)) ?_;go_frame;refine Rg.lr 26 (Rg.bn (.int .i64 ((nx:Nat):Int)) .sub (h:=b_sub _ (by omega) (by omega))) ?_;go_frame;refine Rg.la 4 (.int .i64 ((nx:Nat):Int)) ?_;go_frame;go_wp2;go_ret;exact ⟨_,_,rfl,T.out,K.out⟩
def InvP (B:Nat) (F:Nat→Prop) (tb mb N:Nat) (gs:List (List Nat)) (S:List Stp) (T:List (List Nat)) (es:List En) (sv lv:Value) (x:List Nat) (w:World) (ed:Ending) (w':World):Prop :=
 ∃ (F':Nat→Prop) (sv':Value) (S':List Stp) (T':List (List Nat)) (es':List En) (k:Nat),ed=.returned (.int .i64 ((k:Nat):Int))∧T'[k]?=some (Ma.invN x)∧T <+: T'∧S'.length≤S.length+1∧Tb N gs S' T' es'∧trE es'=trE es∧es'.map (fun e=>(e.b,e.i,e.p,e.x,e.at_))=es.map (fun e=>(e.b,e.i,e.p,e.x,e.at_)) ∧
  TbM B F' tb mb N w' S' T'.length es' es' es' sv' lv∧Gw F (tbS tb mb es sv lv) w F' (tbS tb mb es' sv' lv) w'
theorem inverse_any {tb:Nat} {S:List Stp} {es:List En} {lv:Value} (hp:Tb N gs S T es) (h:TbM B F tb mb N w S T.length es es es sv lv) {b:Nat} {x:List Nat} (hb:∃ e∈es,e.b=b∧e.x=x) (hn:T.length<100000) :
  Calls Tryz.prog 113 #[.pointer (some ⟨tb,0,none⟩),.pointer (some ⟨b,0,none⟩)] w (InvP B F tb mb N gs S T es sv lv x w):=by
 obtain ⟨e,he,rfl,rfl⟩:=hb
 have hsl:S.length<100000:=by have:=hp.sk.len; omega
 have HP:=ι hp;have TM:=ι h;have HE:=ι he;have EO:=ι (hp.en e he);have HN:=ι hn;have HSL:=ι hsl;have HNB:=ι h.ds.nb;have K:=ι (Gw.refl (M:=tbS tb mb es sv lv) h.Flt);obtain ⟨xv,yv,q0⟩:=h.en e he;have EA:=ι q0;obtain ⟨eb,heb⟩:∃ b,Hid (e.b=b):=⟨_,ι rfl⟩;obtain ⟨ek,hek⟩:∃ b,Hid (e.at_=b):=⟨_,ι rfl⟩;obtain ⟨ey,hey⟩:∃ b,Hid (e.by_=b):=⟨_,ι rfl⟩;have C2:=ι (show Cw w eb 2 (.int .i64 ((ek:Nat):Int)) by rw [← heb.out,← hek.out]; exact q0.c2);have C3:=ι (show Cw w eb 3 (.int .i64 ey) by rw [← heb.out,← hey.out]; exact q0.c3);rw [heb.out];clear hp h he hn hsl q0 EA
 go_enter Tryz.func113,Tryz.ntmps113
 go_upto_region 0 with (fail);refine Rg.wl ?_;refine Rg.la 4 (.int .i64 ((0:Nat):Int)) ?_;go_frame
 by_cases hy:ey<0
 case neg =>
  obtain ⟨k,hk,hkT⟩:∃ k:Nat,e.by_=((k:Nat):Int)∧T[k]?=some (Ma.invN e.x):=by
   rcases EO.out.by_ with h9 | h9
   ·rw [hey.out] at h9; omega
   ·exact h9
  have HKT:=ι hkT
  have hky:ey=((k:Nat):Int):=by rw [← hey.out]; exact hk
  clear hk hkT;subst hky;go_upto_region 1 with (fail);refine Rg.wl ?_;refine Rg.lm 5 (.pointer (some ⟨eb,0,none⟩)) ?_;go_frame;refine Rg.lr 6 (exec_nil _ rfl rfl) ?_;go_frame;refine Rg.lr 7 (exec_field _ rfl rfl (enF3 _ _)) ?_;go_frame;refine Rg.lr 8 (Rg.lo (.int .i64 ((k:Nat):Int)) ⟨eb,3,none⟩ (run_loadInt C3.out.c)) ?_;go_frame;refine Rg.lr 9 (Rg.bn (.bool false) .lss (h:=b_lss _ (decide_eq_false hy))) ?_;go_frame;go_upto_region 3 with (fail);refine Rg.wl ?_;refine Rg.lm 22 (.pointer (some ⟨eb,0,none⟩)) ?_;go_frame;refine Rg.lr 23 (exec_nil _ rfl rfl) ?_;go_frame;refine Rg.lr 24 (exec_field _ rfl rfl (enF3 _ _)) ?_;go_frame;refine Rg.lr 25 (Rg.lo (.int .i64 ((k:Nat):Int)) ⟨eb,3,none⟩ (run_loadInt C3.out.c)) ?_;go_frame;refine Rg.la 4 (.int .i64 ((k:Nat):Int)) ?_;go_frame;go_wp2;go_ret;exact ⟨F,sv,S,T,es,k,rfl,HKT.out,List.prefix_rfl,Nat.le_succ _,HP.out,rfl,rfl,TM.out,K.out⟩
 case pos =>
  skip
  go_upto_region 1 with (fail);refine Rg.wl ?_;refine Rg.lm 5 (.pointer (some ⟨eb,0,none⟩)) ?_;go_frame;refine Rg.lr 6 (exec_nil _ rfl rfl) ?_;go_frame;refine Rg.lr 7 (exec_field _ rfl rfl (enF3 _ _)) ?_;go_frame;refine Rg.lr 8 (Rg.lo (.int .i64 ey) ⟨eb,3,none⟩ (run_loadInt C3.out.c)) ?_;go_frame;refine Rg.lr 9 (Rg.bn (.bool true) .lss (h:=b_lss _ (decide_eq_true hy))) ?_;go_frame;clear hy;have HC2:=ι ((show Below w.heap.size w w.drew from (Below.refl _ _).drew).cell (p:=⟨eb,2,none⟩) C2.out.lt);have HC3:=ι (C3.out.kp (M:=fun _=>False) (Rg.Kp.of_below (show Below w.heap.size w w.drew from (Below.refl _ _).drew)) id);go_upto_region 2 with (fail);have hV0:Below w.heap.size w w.drew:=(Below.refl _ _).drew;replace TM:=ι (TM.out.up hV0);replace K:=ι (K.out.up hV0);generalize Fup F w w.drew=F1 at *;clear hV0;refine Rg.Any.begin (S:=Rg.Both 8 (fun W:World=>W.cell? ⟨eb,2,none⟩=some (.int .i64 ((ek:Nat):Int))) (fun _=>True)) mix ?_
  generalize w.drew=w1 at *;have hS:∀ (l:Array Bool) W,(fun W:World=>W.cell? ⟨eb,2,none⟩=some (.int .i64 ((ek:Nat):Int))) W→Rg.Both 8 (fun W:World=>W.cell? ⟨eb,2,none⟩=some (.int .i64 ((ek:Nat):Int))) (fun _=>True) l W:=fun l W h=>⟨.inr h,trivial⟩;have hS2:∀ (l:Array Bool) W,l.getD 8 false=true→Rg.Both 8 (fun W:World=>W.cell? ⟨eb,2,none⟩=some (.int .i64 ((ek:Nat):Int))) (fun _=>True) l W:=fun l W h=>⟨.inl h,trivial⟩;have hI:(fun W:World=>W.cell? ⟨eb,2,none⟩=some (.int .i64 ((ek:Nat):Int))) w1:=HC2.out.trans C2.out.c;refine Rg.tm 0 8 (.pointer (some ⟨eb,0,none⟩)) 10 (hS _ _ hI) ?_;go_frame;refine Rg.tm 1 8 (.pointer (some ⟨tb,0,none⟩)) 11 (hS _ _ hI) ?_;go_frame;refine Rg.tg 2 8 (.pointer (some ⟨tb,0,none⟩)) 12 rfl rfl (.inl ⟨rfl,fun w _=>exec_nil _ rfl rfl⟩) (hS _ _ hI) ?_;go_frame;refine Rg.tg 3 8 (.pointer (some ⟨tb,0,none⟩)) 13 rfl rfl (.inl ⟨rfl,fun w _=>exec_field _ rfl rfl (tblF0 _ _)⟩) (hS _ _ hI) ?_;go_frame
  refine Rg.tm 4 8 (.pointer (some ⟨eb,0,none⟩)) 14 (hS _ _ hI) ?_;go_frame;refine Rg.tg 5 8 (.pointer (some ⟨eb,0,none⟩)) 15 rfl rfl (.inl ⟨rfl,fun w _=>exec_nil _ rfl rfl⟩) (hS _ _ hI) ?_;go_frame;refine Rg.tg 6 8 (.pointer (some ⟨eb,2,none⟩)) 16 rfl rfl (.inl ⟨rfl,fun w _=>exec_field _ rfl rfl (enF2 _ _)⟩) (hS _ _ hI) ?_;go_frame;refine Rg.tT 7 8 (.int .i64 ((ek:Nat):Int)) 17 rfl rfl (Rg.yc ⟨eb,2,none⟩ (fun W hW=>run_loadInt hW)) (hS _ _ hI) ?_;go_frame;refine Rg.aR 8 18 rfl rfl (exec_buildSi _ _ rfl rfl rfl) (hS2 _ _ rfl) ?_;go_frame;refine Rg.Any.one (i:=9) (by kernel_rfl) (Rg.Any.ask (some 19) rfl rfl rfl _ _ (exec_fn 69 _ _ _ rfl rfl rfl (Decl0 _ _)) ?_);refine (record_any TM.out 2 ((ek:Nat):Int) 0 HSL.out (by have:=HN.out; omega)).mono ?_;rintro e1 w2 ⟨F9,sv9,rfl,hT9,hg9⟩;have hI2_k:=trivial;clear hI;refine ⟨_,rfl,(hS2 _ _ rfl),?_⟩;go_frame;replace TM:=ι hT9
  replace K:=ι (K.out.trans hg9);clear hg9 hT9;refine Rg.tg 10 8 (.pointer (some ⟨eb,0,none⟩)) 20 rfl rfl (.inl ⟨rfl,fun w _=>exec_nil _ rfl rfl⟩) (hS2 _ _ rfl) ?_;go_frame;refine Rg.tg 11 8 (.pointer (some ⟨eb,3,none⟩)) 21 rfl rfl (.inl ⟨rfl,fun w _=>exec_field _ rfl rfl (enF3 _ _)⟩) (hS2 _ _ rfl) ?_;go_frame;obtain ⟨xv9,yv9,q9⟩:=TM.out.en e HE.out;have C39:=ι (show Cw w2 eb 3 (.int .i64 ey) by rw [← heb.out,← hey.out]; exact q9.c3);clear q9;obtain ⟨hT8,hkp8,hst8⟩:=TM.out.by HE.out ((T.length:Nat):Int);rw [heb.out] at hT8 hkp8 hst8;refine Rg.Any.one (i:=12) (by kernel_rfl) (Rg.Any.runSkip none rfl rfl rfl (Rg.exec_store _ _ _ rfl _ rfl _ rfl (run_storeInt _ C39.out.c C39.out.f)) (hS2 _ _ rfl) ?_);go_frame;refine Rg.Any.done (by kernel_rfl) ?_ _;clear hS2;clear hS hI2_k;replace K:=ι (K.out.trans (TM.out.gw hkp8 (fun q hq=>.inl ((hst8 q).1 hq))));replace TM:=ι hT8
  have C3N:=ι (show (w2.setCell ⟨eb,3,none⟩ (.int .i64 ((T.length:Nat):Int))).cell? ⟨eb,3,none⟩=some (.int .i64 ((T.length:Nat):Int)) from World.cell?_setCell_same (h:=C39.out.c) ..);generalize w2.setCell ⟨eb,3,none⟩ (.int .i64 ((T.length:Nat):Int))=W7 at *;have hmk:=HP.out.sk.inv EO.out.at_;have hpre:T <+: T++[Ma.invN e.x]:=⟨_,rfl⟩;have hlast:=at_last (T:=T) (Ma.invN e.x)
  have HP2:=ι ((HP.out.grow hmk hpre).setBy (b:=eb) (k:=T.length) (fun e0 h0 hb0=>by
   have h1:e0=e:=eb_inj HNB.out h0 HE.out (by rw [hb0,heb.out])
   rw [h1]; exact hlast))
  rw [hek.out] at hmk HP2;go_upto_region 3 with (fail);refine Rg.wl ?_;refine Rg.lm 22 (.pointer (some ⟨eb,0,none⟩)) ?_;go_frame;refine Rg.lr 23 (exec_nil _ rfl rfl) ?_;go_frame;refine Rg.lr 24 (exec_field _ rfl rfl (enF3 _ _)) ?_;go_frame;refine Rg.lr 25 (Rg.lo (.int .i64 ((T.length:Nat):Int)) ⟨eb,3,none⟩ (run_loadInt C3N.out)) ?_;go_frame;refine Rg.la 4 (.int .i64 ((T.length:Nat):Int)) ?_;go_frame;go_wp2;go_ret;refine ⟨_,sv9,_,_,_,T.length,rfl,hlast,hpre,?_,HP2.out,?_,?_,?_,K.out⟩
  ·rw [List.length_append]; exact Nat.le_refl _
  ·exact setBy_tr _ _ _
  ·exact setBy_all _ _ _
  ·rw [List.length_append]; exact TM.out

theorem clIns1 (args:Array Value) (w:World):(callFunc 115 args).run Tryz.prog w=.ok (.enter 115 args) w:=by kernel_rfl
theorem clPro1 (args:Array Value) (w:World):(callFunc 68 args).run Tryz.prog w=.ok (.enter 68 args) w:=by kernel_rfl
def RdV (M:Nat→Prop) (W:World) (ad:Option Addr) (us:List Value):Prop:=0<us.length→∃ g o,ad=some ⟨g,o,none⟩∧g<W.heap.size∧¬ M g∧∀ i (h:i<us.length),W.cell? ⟨g,o+i,none⟩=some us[i]
theorem RdV.kp {N:Nat→Prop} {ad:Option Addr} {us:List Value} (h:RdV M w ad us) (hk:Rg.Kp N w w') (h1:∀ k,k<w.heap.size→N k→M k) (h2:∀ k,k<w.heap.size→M' k→M k):RdV M' w' ad us:=fun h0=>by
 obtain ⟨g,o,e,hg,hm,hc⟩:=h h0;exact ⟨g,o,e,Nat.lt_of_lt_of_le hg hk.size,fun q=>hm (h2 g hg q),fun i hi=>(World.cell?_of_block (a:=⟨g,o+i,none⟩) (hk.block g hg (fun q=>hm (h1 g hg q)))).trans (hc i hi)⟩
theorem RdV.gw {ad:Option Addr} {us:List Value} (h:RdV M w ad us) (hg:Gw F M w F' M' w'):RdV M' w' ad us :=
 h.kp hg.kp (fun _ _ e=>e) (fun k hk e=>(hg.nM k e).elim id (fun q=>absurd hk (by omega)))
theorem RdV.below {ad:Option Addr} {us:List Value} (h:RdV M w ad us) (hb:Below w.heap.size w w'):RdV M w' ad us :=
 h.kp (N:=fun _=>False) (Rg.Kp.of_below hb) (fun _ _=>False.elim) (fun _ _ e=>e)
theorem ins1_any {tb tp:Nat} {S:List Stp} {es:List En} {lv:Value} (h:TbM B F tb mb N w S nx es es es sv lv) (hc:CF F w tp 0 (.pointer (some ⟨tb,0,none⟩))) (x y:Int) (hn:S.length<100000) (hx:nx<1000000) :
  Calls Tryz.prog 115 #[.int .i64 x,.int .i64 y,.pointer (some ⟨tp,0,none⟩)] w (RecP B F tb mb N S nx es sv lv (1,x,y) w):=by
 have T:=ι h;have C:=ι hc;have HN:=ι hn;have HX:=ι hx;clear h hc hn hx
 go_enter Tryz.func115,Tryz.ntmps115
 go_upto_region 0 with (fail);refine Rg.wl ?_;refine Rg.la 5 (.int .i64 ((0:Nat):Int)) ?_;go_frame;go_upto_region 1 with (fail);refine Rg.wl ?_;refine Rg.lr 6 (Rg.lo (.pointer (some ⟨tb,0,none⟩)) ⟨tp,0,none⟩ (Rg.run_loadPtr _ _ Tryz.underlying98 C.out.cell)) ?_;go_frame;refine Rg.lr 7 (exec_nil _ rfl rfl) ?_;go_frame;refine Rg.lr 8 (exec_field _ rfl rfl (tblF0 _ _)) ?_;go_frame;refine Rg.lm 9 (.int .i64 x) ?_;go_frame;refine Rg.lm 10 (.int .i64 y) ?_;go_frame;refine Rg.lr 11 (exec_buildSm _ _ _ rfl rfl rfl rfl) ?_;go_frame;refine Rg.lk 12 (exec_fn 69 _ _ _ rfl rfl rfl (Decl0 _ _)) ?_;refine (record_any T.out 1 x y HN.out HX.out).mono ?_;rintro e1 w1 ⟨F9,sv9,rfl,hT9,hg9⟩;have hg9x:=hg9;refine ⟨_,rfl,?_⟩;go_frame;clear hg9x;refine Rg.la 5 (.int .i64 ((nx:Nat):Int)) ?_;go_frame;go_wp2;go_ret;exact ⟨_,_,rfl,hT9,hg9⟩
theorem pro1_any {tb tp:Nat} {S:List Stp} {es:List En} {lv:Value} (h:TbM B F tb mb N w S nx es es es sv lv) (hc:CF F w tp 0 (.pointer (some ⟨tb,0,none⟩))) (x:Int) {e:En} (he:e∈es) (hn:S.length<100000) (hx:nx<1000000) :
  Calls Tryz.prog 68 #[.int .i64 x,.pointer (some ⟨e.b,0,none⟩),.pointer (some ⟨tp,0,none⟩)] w (RecP B F tb mb N S nx es sv lv (1,x,((e.at_:Nat):Int)) w):=by
 have TM:=ι h;have C:=ι hc;have HN:=ι hn;have HX:=ι hx;have K:=ι (Gw.refl (M:=tbS tb mb es sv lv) h.Flt);obtain ⟨xv,yv,q0⟩:=h.en e he;obtain ⟨eb,heb⟩:∃ b,Hid (e.b=b):=⟨_,ι rfl⟩;obtain ⟨ek,hek⟩:∃ b,Hid (e.at_=b):=⟨_,ι rfl⟩;have C2:=ι (show Cw w eb 2 (.int .i64 ((ek:Nat):Int)) by rw [← heb.out,← hek.out]; exact q0.c2);have HC2:=ι ((show Below w.heap.size w w.drew from (Below.refl _ _).drew).cell (p:=⟨eb,2,none⟩) C2.out.lt);rw [heb.out,hek.out];have HE:=ι he;clear h hc hn hx he q0
 go_enter Tryz.func68,Tryz.ntmps68
 go_upto_region 0 with (fail);refine Rg.wl ?_;refine Rg.la 5 (.int .i64 ((0:Nat):Int)) ?_;go_frame;go_upto_region 1 with (fail);have hV0:Below w.heap.size w w.drew:=(Below.refl _ _).drew;replace TM:=ι (TM.out.up hV0);replace C:=ι (C.out.up hV0);replace K:=ι (K.out.up hV0);generalize Fup F w w.drew=F1 at *;clear hV0;refine Rg.Any.begin (S:=Rg.Both 10 (fun W:World=>W.cell? ⟨tp,0,none⟩=some (.pointer (some ⟨tb,0,none⟩))∧W.cell? ⟨eb,2,none⟩=some (.int .i64 ((ek:Nat):Int))) (fun _=>True)) mix ?_;generalize w.drew=w1 at *;have hS:∀ (l:Array Bool) W,(fun W:World=>W.cell? ⟨tp,0,none⟩=some (.pointer (some ⟨tb,0,none⟩))∧W.cell? ⟨eb,2,none⟩=some (.int .i64 ((ek:Nat):Int))) W→Rg.Both 10 (fun W:World=>W.cell? ⟨tp,0,none⟩=some (.pointer (some ⟨tb,0,none⟩))∧W.cell? ⟨eb,2,none⟩=some (.int .i64 ((ek:Nat):Int))) (fun _=>True) l W:=fun l W h=>⟨.inr h,trivial⟩
 have hS2:∀ (l:Array Bool) W,l.getD 10 false=true→Rg.Both 10 (fun W:World=>W.cell? ⟨tp,0,none⟩=some (.pointer (some ⟨tb,0,none⟩))∧W.cell? ⟨eb,2,none⟩=some (.int .i64 ((ek:Nat):Int))) (fun _=>True) l W:=fun l W h=>⟨.inl h,trivial⟩;have hI:(fun W:World=>W.cell? ⟨tp,0,none⟩=some (.pointer (some ⟨tb,0,none⟩))∧W.cell? ⟨eb,2,none⟩=some (.int .i64 ((ek:Nat):Int))) w1:=⟨C.out.cell,HC2.out.trans C2.out.c⟩;refine Rg.tT 0 10 (.pointer (some ⟨tb,0,none⟩)) 6 rfl rfl (Rg.yc ⟨tp,0,none⟩ (fun W hW=>Rg.run_loadPtr _ _ Tryz.underlying98 hW.1)) (hS _ _ hI) ?_;go_frame;refine Rg.tg 1 10 (.pointer (some ⟨tb,0,none⟩)) 7 rfl rfl (.inl ⟨rfl,fun w _=>exec_nil _ rfl rfl⟩) (hS _ _ hI) ?_;go_frame;refine Rg.tg 2 10 (.pointer (some ⟨tb,0,none⟩)) 8 rfl rfl (.inl ⟨rfl,fun w _=>exec_field _ rfl rfl (tblF0 _ _)⟩) (hS _ _ hI) ?_;go_frame;refine Rg.tm 3 10 (.int .i64 x) 9 (hS _ _ hI) ?_;go_frame
 refine Rg.tm 4 10 (.pointer (some ⟨eb,0,none⟩)) 10 (hS _ _ hI) ?_;go_frame;refine Rg.tg 5 10 (.pointer (some ⟨eb,0,none⟩)) 11 rfl rfl (.inl ⟨rfl,fun w _=>exec_nil _ rfl rfl⟩) (hS _ _ hI) ?_;go_frame;refine Rg.tg 6 10 (.pointer (some ⟨eb,2,none⟩)) 12 rfl rfl (.inl ⟨rfl,fun w _=>exec_field _ rfl rfl (enF2 _ _)⟩) (hS _ _ hI) ?_;go_frame;refine Rg.tT 7 10 (.int .i64 ((ek:Nat):Int)) 13 rfl rfl (Rg.yc ⟨eb,2,none⟩ (fun W hW=>run_loadInt hW.2)) (hS _ _ hI) ?_;go_frame;refine Rg.tg 8 10 ((.agg #[.int .i64 1,.int .i64 x,.int .i64 ((ek:Nat):Int)])) 14 rfl rfl (.inl ⟨rfl,fun w _=>exec_buildSm _ _ _ rfl rfl rfl rfl⟩) (hS _ _ hI) ?_;go_frame;refine Rg.Any.one (i:=9) (by kernel_rfl) (Rg.Any.ask (some 15) rfl rfl rfl _ _ (exec_fn 69 _ _ _ rfl rfl rfl (Decl0 _ _)) ?_);refine (record_any TM.out 1 x ((ek:Nat):Int) HN.out HX.out).mono ?_;rintro e1 w2 ⟨F9,sv9,rfl,hT9,hg9⟩
 have hg9x:=hg9;have hC9:=C.out.kg hg9.kg;obtain ⟨xv9,yv9,q9⟩:=hT9.en e HE.out;have HK9:=(show (fun W:World=>W.cell? ⟨tp,0,none⟩=some (.pointer (some ⟨tb,0,none⟩))∧W.cell? ⟨eb,2,none⟩=some (.int .i64 ((ek:Nat):Int))) w2 from ⟨(C.out.kg hg9.kg).cell,by rw [← heb.out,← hek.out]; exact q9.c2.c⟩);have hI2_k:=HK9;clear hI;refine ⟨_,rfl,(hS _ _ hI2_k),?_⟩;go_frame;replace TM:=ι hT9;replace C:=ι hC9;replace K:=ι (K.out.trans hg9x);clear hg9x hT9 hC9;refine Rg.aR 10 5 rfl rfl (Rg.xa (.int .i64 ((nx:Nat):Int)) _ rfl rfl) (hS2 _ _ rfl) ?_;go_frame;refine Rg.Any.done (by kernel_rfl) ?_ _;clear hS2;clear hS hI2_k;go_wp2;go_ret;exact ⟨_,_,rfl,TM.out,K.out⟩
def FoP (B:Nat) (F:Nat→Prop) (tb mb N:Nat) (gs:List (List Nat)) (S:List Stp) (T:List (List Nat)) (es:List En) (sv lv:Value) (n:Nat) (y:List Nat) (w:World) (ed:Ending) (w':World):Prop :=
 ∃ (F':Nat→Prop) (sv':Value) (S':List Stp) (T':List (List Nat)) (a:Nat),ed=.returned (.int .i64 ((a:Nat):Int))∧T'[a]?=some y∧T <+: T'∧S'.length=S.length+n∧Mk N gs S' T'∧(0<n→a+1=T'.length) ∧
  TbM B F' tb mb N w' S' T'.length es es es sv' lv∧Gw F (tbS tb mb es sv lv) w F' (tbS tb mb es sv' lv) w'
theorem foldTI_any {tb tp:Nat} {S:List Stp} {es:List En} {lv:Value} (hm:Mk N gs S T) (h:TbM B F tb mb N w S T.length es es es sv lv) (hc:CF F w tp 0 (.pointer (some ⟨tb,0,none⟩)))
  {l:List Nat} {ad:Option Addr} {a0:Nat} {y0:List Nat} (hl:∀ k∈l,∃ z,T[k]?=some z) (ha:T[a0]?=some y0) (hr:RdV (tbS tb mb es sv lv) w ad (l.map fun k:Nat=>Value.int .i64 ((k:Nat):Int))) (hn:T.length+l.length<100000) :
  Calls Tryz.prog 114 #[.slice ad l.length cap,.int .i64 ((a0:Nat):Int),(.func (.func 115) #[] #[.pointer (some ⟨tp,0,none⟩)])] w (FoP B F tb mb N gs S T es sv lv l.length (l.foldl (fun y (k:Nat)=>Ma.mulN y (T.getD k [])) y0) w):=by
 have HL:=ι hl;have HN:=ι hn;have HM0:=ι hm.len;have MK:=ι hm;have TM:=ι h;have C:=ι hc;have RD:=ι hr;have HA:=ι (show T[a0]?=some ((l.take 0).foldl (fun y (k:Nat)=>Ma.mulN y (T.getD k [])) y0) from ha);have HP:=ι (show T <+: T from List.prefix_rfl);have HS:=ι (show S.length=S.length+0 from rfl);have HE:=ι (show 0<0→a0+1=T.length from fun h=>absurd h (Nat.lt_irrefl 0));have K:=ι (Gw.refl (M:=tbS tb mb es sv lv) h.Flt);obtain ⟨m,hm⟩:∃ m,Hid (l.length=m):=⟨_,ι rfl⟩;rw [hm.out]
 have hm5:m<100000:=by have:=hm.out; omega
 clear hl hn h hc hr ha
 go_enter Tryz.func114,Tryz.ntmps114
 go_upto_region 0 with (fail);refine Rg.wl ?_;refine Rg.la 6 (.int .i64 ((0:Nat):Int)) ?_;go_frame;go_upto_region 1 with (fail);refine Rg.wl ?_;refine Rg.lm 9 (.slice ad m cap) ?_;go_frame;refine Rg.lr 10 (Rg.ln Tryz.underlying25) ?_;go_frame;refine Rg.lm 11 (.int .i64 ((0:Nat):Int)) ?_;go_frame;go_wp2
 go_loopw [1,11] (fun vv iv wr=>∃ (i a:Nat) (F1:Nat→Prop) (sv1:Value) (S1:List Stp) (T1:List (List Nat)),vv=.int .i64 ((a:Nat):Int)∧iv=.int .i64 ((i:Nat):Int)∧i≤m∧Hid (T1[a]?=some ((l.take i).foldl (fun y (k:Nat)=>Ma.mulN y (T.getD k [])) y0))∧Hid (T <+: T1)∧Hid (S1.length=S.length+i)∧Hid (0<i→a+1=T1.length)∧Hid (Mk N gs S1 T1)∧Hid (TbM B F1 tb mb N wr S1 T1.length es es es sv1 lv)∧Hid (Gw F (tbS tb mb es sv lv) w F1 (tbS tb mb es sv1 lv) wr)∧Hid (CF F1 wr tp 0 (.pointer (some ⟨tb,0,none⟩)))∧Hid (RdV (tbS tb mb es sv1 lv) wr ad (l.map fun k:Nat=>Value.int .i64 ((k:Nat):Int)))) (fun _ iv _=>m - (intOf iv).toNat)
 case atStart=>exact ⟨0,a0,F,sv,S,T,rfl,rfl,Nat.zero_le _,HA,HP,HS,HE,MK,TM,K,C,RD⟩
 case round =>
  clear HA HP HS HE MK TM K C RD;obtain ⟨i,a,F1,sv1,S1,T1,rfl,rfl,hi,HA,HP,HS,HE,MK,TM,K,C,RD⟩:=hrel
  by_cases hil:i<m
  case neg =>
   have HT:=ι (show l.take i=l from List.take_of_length_le (by have:=hm.out; omega))
   have hie:i=m:=by omega
   subst hie;go_upto_region 2 with (fail);refine Rg.wl ?_;refine Rg.lr 12 (Rg.bn (.bool false) .lss (h:=b_lss _ Rg.dF)) ?_;go_frame;go_upto_region 6 with (fail);refine Rg.wl ?_;refine Rg.lm 20 (.int .i64 ((a:Nat):Int)) ?_;go_frame;refine Rg.la 6 (.int .i64 ((a:Nat):Int)) ?_;go_frame;go_wp2;go_ret;exact ⟨_,_,_,_,a,rfl,by have:=HA.out; rwa [HT.out] at this,HP.out,HS.out,MK.out,HE.out,TM.out,K.out⟩
  case pos =>
   have HIL:=ι hil
   have hiS:i<l.length:=by rw [hm.out]; exact hil
   obtain ⟨g,o,e1,hg,-,hc⟩:=RD.out (by rw [List.length_map]; omega);subst e1;obtain ⟨x,hx⟩:∃ x,Hid (l[i]'hiS=x):=⟨_,ι rfl⟩;have hc:=hc i (by rw [List.length_map]; exact hiS);rw [List.getElem_map,hx.out] at hc;have CX:=ι (CL.mk hc hg);have HXL:=ι (HL.out x (hx.out▸List.getElem_mem hiS));have HLN:=ι (show S1.length<100000∧T1.length<100000 by have:=MK.out.len; have:=HM0.out; have:=HS.out; have:=HN.out; have:=hm.out; omega);have HNX:=ι (show (l.take (i+1)).foldl (fun y (k:Nat)=>Ma.mulN y (T.getD k [])) y0=(fun y (k:Nat)=>Ma.mulN y (T.getD k [])) ((l.take i).foldl (fun y (k:Nat)=>Ma.mulN y (T.getD k [])) y0) x by rw [List.take_succ_eq_append_getElem hiS,hx.out,List.foldl_append]; rfl);clear hc hg;go_upto_region 2 with (fail);refine Rg.wl ?_;refine Rg.lr 12 (Rg.bn (.bool true) .lss (h:=b_lss _ Rg.dT)) ?_;go_frame;go_upto_region 3 with (fail)
   refine Rg.wl ?_;refine Rg.lr 13 (exec_indexS slInts _ _ rfl g (o) (m) cap (i) rfl rfl HIL.out) ?_;go_frame;refine Rg.lr 14 (Rg.lo (.int .i64 ((x:Nat):Int)) ⟨g,o+i,none⟩ (run_loadInt CX.out.cell)) ?_;go_frame;refine Rg.la 8 (.int .i64 ((x:Nat):Int)) ?_;go_frame;go_upto_region 4 with (fail);refine Rg.wl ?_;refine Rg.lm 15 ((.func (.func 115) #[] #[.pointer (some ⟨tp,0,none⟩)])) ?_;go_frame;refine Rg.lm 16 (.int .i64 ((a:Nat):Int)) ?_;go_frame;refine Rg.lm 17 (.int .i64 ((x:Nat):Int)) ?_;go_frame;refine Rg.lk 18 (exec_fnc2 115 _ _ _ _ rfl rfl rfl rfl (clIns1 _ _)) ?_;refine (ins1_any TM.out C.out ((a:Nat):Int) ((x:Nat):Int) HLN.out.1 (by have:=HLN.out.2; omega)).mono ?_;rintro e1 w21 ⟨F9,sv9,rfl,hT9,hg9⟩;have hg9x:=hg9;refine ⟨_,rfl,?_⟩;go_frame;clear hg9x;refine Rg.la 1 (.int .i64 ((T1.length:Nat):Int)) ?_;go_frame
   have hz:T1[x]?=some (T.getD x []):=by
    obtain ⟨z,hz⟩:=HXL.out;rw [List.getD_eq_getElem?_getD,hz];exact pre_at HP.out hz
   have hmk:=MK.out.mul HA.out hz
   have hal:(T1++[Ma.mulN ((l.take i).foldl (fun y (k:Nat)=>Ma.mulN y (T.getD k [])) y0) (T.getD x [])])[T1.length]?=some ((l.take (i+1)).foldl (fun y (k:Nat)=>Ma.mulN y (T.getD k [])) y0):=by rw [HNX.out]; exact at_last _
   have HA2:=ι hal;have HP2:=ι (show T <+: T1++[Ma.mulN ((l.take i).foldl (fun y (k:Nat)=>Ma.mulN y (T.getD k [])) y0) (T.getD x [])] from HP.out.trans ⟨_,rfl⟩);have HS2:=ι (show (S1++[((1:Int),((a:Nat):Int),((x:Nat):Int))]).length=S.length+(i+1) by rw [List.length_append,HS.out]; rfl);have HE2:=ι (show 0<i+1→T1.length+1=(T1++[Ma.mulN ((l.take i).foldl (fun y (k:Nat)=>Ma.mulN y (T.getD k [])) y0) (T.getD x [])]).length from fun _=>by rw [List.length_append]; rfl);have MK2:=ι hmk;have TM2:=ι (show TbM B F9 tb mb N _ _ (T1++[Ma.mulN ((l.take i).foldl (fun y (k:Nat)=>Ma.mulN y (T.getD k [])) y0) (T.getD x [])]).length es es es sv9 lv by rw [List.length_append]; exact hT9);have K2:=ι (K.out.trans hg9);have C2:=ι (C.out.kg hg9.kg);have RD2:=ι (RD.out.gw hg9);clear hz hmk hal hT9 hg9 HA HP HS HE MK TM K C RD CX HNX;go_upto_region 5 with (fail)
   refine Rg.wl ?_;refine Rg.lr 19 (Rg.bn (.int .i64 (((i+1):Nat):Int)) .add (h:=b_add _ (by omega) (by omega))) ?_;go_frame;refine Rg.lm 11 (.int .i64 (((i+1):Nat):Int)) ?_;go_frame;go_wp2
   go_roundw
   case rel=>exact ⟨i+1,_,_,_,_,_,rfl,by go_num,HIL.out,HA2,HP2,HS2,HE2,MK2,TM2,K2,C2,RD2⟩
   case measure=>simp [intOf]; have:=HIL.out; omega
theorem foldTE_any {tb tp:Nat} {S:List Stp} {es:List En} {lv:Value} (hm:Mk N gs S T) (h:TbM B F tb mb N w S T.length es es es sv lv) (hc:CF F w tp 0 (.pointer (some ⟨tb,0,none⟩)))
  {l:List En} {ad:Option Addr} {a0:Nat} {y0:List Nat} (hl:∀ e∈l,e∈es∧T[e.at_]?=some e.x) (ha:T[a0]?=some y0) (hr:RdV (tbS tb mb es sv lv) w ad (l.map enP)) (hn:T.length+l.length<100000) :
  Calls Tryz.prog 67 #[.slice ad l.length cap,.int .i64 ((a0:Nat):Int),(.func (.func 68) #[] #[.pointer (some ⟨tp,0,none⟩)])] w (FoP B F tb mb N gs S T es sv lv l.length (l.foldl (fun y (e:En)=>Ma.mulN y e.x) y0) w):=by
 have HL:=ι hl;have HN:=ι hn;have HM0:=ι hm.len;have MK:=ι hm;have TM:=ι h;have C:=ι hc;have RD:=ι hr;have HA:=ι (show T[a0]?=some ((l.take 0).foldl (fun y (e:En)=>Ma.mulN y e.x) y0) from ha);have HP:=ι (show T <+: T from List.prefix_rfl);have HS:=ι (show S.length=S.length+0 from rfl);have HE:=ι (show 0<0→a0+1=T.length from fun h=>absurd h (Nat.lt_irrefl 0));have K:=ι (Gw.refl (M:=tbS tb mb es sv lv) h.Flt);obtain ⟨m,hm⟩:∃ m,Hid (l.length=m):=⟨_,ι rfl⟩;rw [hm.out]
 have hm5:m<100000:=by have:=hm.out; omega
 clear hl hn h hc hr ha
 go_enter Tryz.func67,Tryz.ntmps67
 go_upto_region 0 with (fail);refine Rg.wl ?_;refine Rg.la 6 (.int .i64 ((0:Nat):Int)) ?_;go_frame;go_upto_region 1 with (fail);refine Rg.wl ?_;refine Rg.lm 9 (.slice ad m cap) ?_;go_frame;refine Rg.lr 10 (Rg.ln Tryz.underlying102) ?_;go_frame;refine Rg.lm 11 (.int .i64 ((0:Nat):Int)) ?_;go_frame;go_wp2
 go_loopw [1,11] (fun vv iv wr=>∃ (i a:Nat) (F1:Nat→Prop) (sv1:Value) (S1:List Stp) (T1:List (List Nat)),vv=.int .i64 ((a:Nat):Int)∧iv=.int .i64 ((i:Nat):Int)∧i≤m∧Hid (T1[a]?=some ((l.take i).foldl (fun y (e:En)=>Ma.mulN y e.x) y0))∧Hid (T <+: T1)∧Hid (S1.length=S.length+i)∧Hid (0<i→a+1=T1.length)∧Hid (Mk N gs S1 T1)∧Hid (TbM B F1 tb mb N wr S1 T1.length es es es sv1 lv)∧Hid (Gw F (tbS tb mb es sv lv) w F1 (tbS tb mb es sv1 lv) wr)∧Hid (CF F1 wr tp 0 (.pointer (some ⟨tb,0,none⟩)))∧Hid (RdV (tbS tb mb es sv1 lv) wr ad (l.map enP))) (fun _ iv _=>m - (intOf iv).toNat)
 case atStart=>exact ⟨0,a0,F,sv,S,T,rfl,rfl,Nat.zero_le _,HA,HP,HS,HE,MK,TM,K,C,RD⟩
 case round =>
  clear HA HP HS HE MK TM K C RD;obtain ⟨i,a,F1,sv1,S1,T1,rfl,rfl,hi,HA,HP,HS,HE,MK,TM,K,C,RD⟩:=hrel
  by_cases hil:i<m
  case neg =>
   have HT:=ι (show l.take i=l from List.take_of_length_le (by have:=hm.out; omega))
   have hie:i=m:=by omega
   subst hie;go_upto_region 2 with (fail);refine Rg.wl ?_;refine Rg.lr 12 (Rg.bn (.bool false) .lss (h:=b_lss _ Rg.dF)) ?_;go_frame;go_upto_region 6 with (fail);refine Rg.wl ?_;refine Rg.lm 20 (.int .i64 ((a:Nat):Int)) ?_;go_frame;refine Rg.la 6 (.int .i64 ((a:Nat):Int)) ?_;go_frame;go_wp2;go_ret;exact ⟨_,_,_,_,a,rfl,by have:=HA.out; rwa [HT.out] at this,HP.out,HS.out,MK.out,HE.out,TM.out,K.out⟩
  case pos =>
   have HIL:=ι hil
   have hiS:i<l.length:=by rw [hm.out]; exact hil
   obtain ⟨g,o,e1,hg,-,hc⟩:=RD.out (by rw [List.length_map]; omega);subst e1;obtain ⟨x,hx⟩:∃ x,Hid (l[i]'hiS=x):=⟨_,ι rfl⟩;have hc:=hc i (by rw [List.length_map]; exact hiS);rw [List.getElem_map,hx.out] at hc;have CX:=ι (CL.mk hc hg);have HXL:=ι (HL.out x (hx.out▸List.getElem_mem hiS));have HLN:=ι (show S1.length<100000∧T1.length<100000 by have:=MK.out.len; have:=HM0.out; have:=HS.out; have:=HN.out; have:=hm.out; omega);have HNX:=ι (show (l.take (i+1)).foldl (fun y (e:En)=>Ma.mulN y e.x) y0=(fun y (e:En)=>Ma.mulN y e.x) ((l.take i).foldl (fun y (e:En)=>Ma.mulN y e.x) y0) x by rw [List.take_succ_eq_append_getElem hiS,hx.out,List.foldl_append]; rfl);clear hc hg;go_upto_region 2 with (fail);refine Rg.wl ?_;refine Rg.lr 12 (Rg.bn (.bool true) .lss (h:=b_lss _ Rg.dT)) ?_;go_frame;go_upto_region 3 with (fail);refine Rg.wl ?_;refine Rg.lr 13 (exec_indexS slEnts _ _ rfl g (o) (m) cap (i) rfl rfl HIL.out) ?_;go_frame
   refine Rg.lr 14 (Rg.lo (.pointer (some ⟨x.b,0,none⟩)) ⟨g,o+i,none⟩ (Rg.run_loadPtr _ _ Tryz.underlying110 CX.out.cell)) ?_;go_frame;refine Rg.la 8 (.pointer (some ⟨x.b,0,none⟩)) ?_;go_frame;go_upto_region 4 with (fail);refine Rg.wl ?_;refine Rg.lm 15 ((.func (.func 68) #[] #[.pointer (some ⟨tp,0,none⟩)])) ?_;go_frame;refine Rg.lm 16 (.int .i64 ((a:Nat):Int)) ?_;go_frame;refine Rg.lm 17 (.pointer (some ⟨x.b,0,none⟩)) ?_;go_frame;refine Rg.lk 18 (exec_fnc2 68 _ _ _ _ rfl rfl rfl rfl (clPro1 _ _)) ?_;refine (pro1_any TM.out C.out ((a:Nat):Int) HXL.out.1 HLN.out.1 (by have:=HLN.out.2; omega)).mono ?_;rintro e1 w21 ⟨F9,sv9,rfl,hT9,hg9⟩;have hg9x:=hg9;refine ⟨_,rfl,?_⟩;go_frame;clear hg9x;refine Rg.la 1 (.int .i64 ((T1.length:Nat):Int)) ?_;go_frame
   have hz:T1[x.at_]?=some x.x:=by
    exact pre_at HP.out HXL.out.2
   have hmk:=MK.out.mul HA.out hz
   have hal:(T1++[Ma.mulN ((l.take i).foldl (fun y (e:En)=>Ma.mulN y e.x) y0) x.x])[T1.length]?=some ((l.take (i+1)).foldl (fun y (e:En)=>Ma.mulN y e.x) y0):=by rw [HNX.out]; exact at_last _
   have HA2:=ι hal;have HP2:=ι (show T <+: T1++[Ma.mulN ((l.take i).foldl (fun y (e:En)=>Ma.mulN y e.x) y0) x.x] from HP.out.trans ⟨_,rfl⟩);have HS2:=ι (show (S1++[((1:Int),((a:Nat):Int),((x.at_:Nat):Int))]).length=S.length+(i+1) by rw [List.length_append,HS.out]; rfl);have HE2:=ι (show 0<i+1→T1.length+1=(T1++[Ma.mulN ((l.take i).foldl (fun y (e:En)=>Ma.mulN y e.x) y0) x.x]).length from fun _=>by rw [List.length_append]; rfl);have MK2:=ι hmk;have TM2:=ι (show TbM B F9 tb mb N _ _ (T1++[Ma.mulN ((l.take i).foldl (fun y (e:En)=>Ma.mulN y e.x) y0) x.x]).length es es es sv9 lv by rw [List.length_append]; exact hT9);have K2:=ι (K.out.trans hg9);have C2:=ι (C.out.kg hg9.kg);have RD2:=ι (RD.out.gw hg9);clear hz hmk hal hT9 hg9 HA HP HS HE MK TM K C RD CX HNX;go_upto_region 5 with (fail);refine Rg.wl ?_;refine Rg.lr 19 (Rg.bn (.int .i64 (((i+1):Nat):Int)) .add (h:=b_add _ (by omega) (by omega))) ?_;go_frame
   refine Rg.lm 11 (.int .i64 (((i+1):Nat):Int)) ?_;go_frame;go_wp2
   go_roundw
   case rel=>exact ⟨i+1,_,_,_,_,_,rfl,by go_num,HIL.out,HA2,HP2,HS2,HE2,MK2,TM2,K2,C2,RD2⟩
   case measure=>simp [intOf]; have:=HIL.out; omega

theorem fcMul_f {b:List Nat} (h1:FP F w v1 a) (h2:FP F w v2 b) (ga:Cm.Gd n a) (gb:Cm.Gd n b) (hn:1≤n) (hn2:n≤64) :
  Calls Tryz.prog 44 #[v1,v2] w fun e w'=>∃ v,e=.returned v∧FP (Fup F w w') w' v (Ma.mulN a b)∧Below w.heap.size w w':=by
 have e1:=ga.2;have e2:=gb.2;refine (fcMul_any v1 v2 a b w h1.np h2.np (fun x hx=>by have:=ga.1.1 x hx; omega) (by omega) (by omega) (by omega)).mono ?_;rintro e w' ⟨v,rfl,hv,hb⟩;exact ⟨v,rfl,FP.new hv,hb⟩
theorem fcInv_f (h1:FP F w v1 a) (ga:Cm.Gd n a) (hn:1≤n) (hn2:n≤64) :
  Calls Tryz.prog 45 #[v1] w fun e w'=>∃ v,e=.returned v∧FP (Fup F w w') w' v (Ma.invN a)∧Below w.heap.size w w':=by
 have e1:=ga.2;refine (fcInv_any v1 a w h1.np ga.1 (by omega) (by omega)).mono ?_;rintro e w' ⟨v,rfl,hv,hb⟩;exact ⟨v,rfl,FP.new hv,hb⟩
structure SfM (B:Nat) (F:Nat→Prop) (tb mb N:Nat) (W:World) (S:List Stp) (nx:Nat) (es:List En) (sv lv:Value) (w0:World) (F0:Nat→Prop) (ab:Nat) (x0 y0:Int) (uv:Value) (U:List En):Prop where
 tm:TbM B F tb mb N W S nx es es es sv lv
 kg:KG F0 w0 F W
 nF:∀ k,F k→F0 k∨w0.heap.size≤k
 bl:Below w0.heap.size w0 W
 row:W.ownsRow w0.heap.size 110 1 uv U.length (U.map enP)
 offr:∀ k,uv.ownBlock=some k→¬ F k∧k≠ab
 pw:Pw W ab x0 y0
 offa:¬ F ab∧w0.heap.size≤ab
 mlt:∀ k,tbS tb mb es sv lv k→k<w0.heap.size
theorem SfM.gw {tb:Nat} {S:List Stp} {es:List En} {lv:Value} {ab:Nat} {x0 y0:Int} {U:List En} (h:SfM B F tb mb N W S nx es sv lv w0 F0 ab x0 y0 uv U) (M:Nat→Prop):Gw F0 M w0 F M W :=
 ⟨h.kg,Rg.Kp.of_below h.bl,h.nF,fun _=>.inl⟩
theorem SfM.up {B:Nat} {F:Nat→Prop} {tb mb N:Nat} {W W':World} {S:List Stp} {nx:Nat} {es:List En} {sv lv:Value} {w0:World} {F0:Nat→Prop} {ab:Nat} {x0 y0:Int} {uv:Value} {U:List En} (h:SfM B F tb mb N W S nx es sv lv w0 F0 ab x0 y0 uv U) (hb:Below W.heap.size W W'):SfM B (Fup F W W') tb mb N W' S nx es sv lv w0 F0 ab x0 y0 uv U:=by
 refine ⟨h.tm.up hb,h.kg.up hb,fun k hk=>?_,h.bl.trans (hb.mono h.bl.size),Rg.row_below h.row hb,fun k e=>⟨fun hk=>?_,(h.offr k e).2⟩,h.pw.below hb,⟨fun hk=>?_,h.offa.2⟩,h.mlt⟩
 ·rcases hk with hk | hk
  ·exact h.nF k hk
  ·exact .inr (Nat.le_trans h.bl.size hk.1)
 ·rcases hk with hk | hk
  ·exact (h.offr k e).1 hk
  ·have:=(World.ownsRow.lt h.row k e).2; omega
 ·rcases hk with hk | hk
  ·exact h.offa.1 hk
  ·have:=h.pw.c0.lt; omega
theorem SfM.push {tb:Nat} {S:List Stp} {es:List En} {lv:Value} {ab:Nat} {x0 y0:Int} {U:List En} (h:SfM B F tb mb N W S nx es sv lv w0 F0 ab x0 y0 uv U) (e:En) (hn:U.length<1000000) (ty:TypeId) :
  ∃ a c X,(Builtin.append_ #[102,102] ty #[uv,.slice (some ⟨W.heap.size,0,none⟩) 1 1]).run Tryz.prog (W.alloc (.cells #[enP e] 110))=.ok (.slice a (U.length+1) c) X ∧
   SfM B F tb mb N X S nx es sv lv w0 F0 ab x0 y0 (.slice a (U.length+1) c) (U++[e])∧KF F W X∧Rg.Kp (fun k=>uv.ownBlock=some k) W X:=by
 have hb:Below W.heap.size W (W.alloc (.cells #[enP e] 110)):=(Below.refl _ _).alloc (Nat.le_refl _) _
 have e2:(W.alloc (.cells #[enP e] 110)).heap.size=W.heap.size+1:=by simp
 obtain ⟨v',X,r1,r2,q3,q4,a,c,rfl⟩:=app_run (P:=Tryz.prog) slEnts ty (Rg.row_below h.row hb) (Nat.le_trans h.bl.size hb.size) W.heap.size 1 (u:=enP e) (by rw [Rg.cellNew]; rfl) rfl hn;have r3:Rg.Kp (fun k=>uv.ownBlock=some k) W X:=Rg.Kp.trans (M:=fun k=>uv.ownBlock=some k) ((Rg.Kp.of_below hb).weak fun _=>False.elim) (Rg.Kp.of_grown q3 fun _ e=>e) (fun _ _ e=>e);have hF:∀ k,F k→¬ uv.ownBlock=some k:=fun k hf e=>(h.offr k e).1 hf;have hkf:KF F W X:=r3.weak fun k e hf=>hF k hf e;refine ⟨a,c,X,r1,⟨h.tm.kp r3 (fun k e hm=>?_) hF,h.kg.kf' hkf,h.nF,Rg.Kp.below h.bl r3 (fun k e=>(World.ownsRow.lt h.row k e).1),by rw [List.length_append,List.map_append]; exact r2,fun k e=>?_,h.pw.kp r3 (fun e=>(h.offr ab e).2 rfl),h.offa,h.mlt⟩,hkf,r3⟩
 ·have:=h.mlt k hm
  have:=(World.ownsRow.lt h.row k e).1;omega
 ·rcases q4 with q4 | q4
  ·exact h.offr k (by rw [← q4]; exact e)
  ·rw [q4] at e
   injection e with e
   refine ⟨fun hf=>?_,fun e3=>?_⟩
   ·have:=h.tm.Flt k hf; omega
   ·have:=h.pw.c0.lt; omega
theorem SfM.set {B:Nat} {F:Nat→Prop} {tb mb N:Nat} {W:World} {S:List Stp} {nx:Nat} {es:List En} {sv lv:Value} {w0:World} {F0:Nat→Prop} {ab:Nat} {x0 y0:Int} {uv:Value} {U:List En} (h:SfM B F tb mb N W S nx es sv lv w0 F0 ab x0 y0 uv U) (u v:Int) :
  SfM B F tb mb N ((W.setCell ⟨ab,0,none⟩ (.int .i64 u)).setCell ⟨ab,1,none⟩ (.int .i64 v)) S nx es sv lv w0 F0 ab u v uv U∧KF F W ((W.setCell ⟨ab,0,none⟩ (.int .i64 u)).setCell ⟨ab,1,none⟩ (.int .i64 v)):=by
 have hk:Rg.Kp (fun k=>k=ab) W ((W.setCell ⟨ab,0,none⟩ (.int .i64 u)).setCell ⟨ab,1,none⟩ (.int .i64 v)):=Rg.Kp.trans (M:=fun k=>k=ab) (Rg.Kp.of_setCell rfl) (Rg.Kp.of_setCell (M:=fun k=>k=ab) rfl) (fun _ _ e=>e);have hF:∀ k,F k→¬ k=ab:=fun k hf e=>h.offa.1 (e▸hf);have hkf:=hk.weak (M':=fun k=>¬ F k) fun k e hf=>hF k hf e;refine ⟨⟨h.tm.kp hk (fun k e hm=>?_) hF,h.kg.kf' hkf,h.nF,Rg.Kp.below h.bl hk (fun k e=>e▸h.offa.2),rowKp h.row hk (fun k e e2=>(h.offr k e2).2 e),h.offr,h.pw.set u v,h.offa,h.mlt⟩,hkf⟩;have:=h.mlt k hm;have:=h.offa.2;omega
def SiP (B:Nat) (F:Nat→Prop) (tb mb N:Nat) (S:List Stp) (nx:Nat) (es:List En) (sv lv:Value) (U:List En) (A:Nat × List Nat) (w:World) (ed:Ending) (w':World):Prop :=
 ∃ (F':Nat→Prop) (uv rv:Value) (x y:Int),ed=.returned (.tuple #[uv,rv,.agg #[.int .i64 x,.int .i64 y],.bool (decide (A.1<N))])∧(A.1<N→x=((A.1:Nat):Int)∧y=((Cm.ap A.2 A.1:Nat):Int)) ∧
  TbM B F' tb mb N w' S nx es es es sv lv∧(∀ M,Gw F M w F' M w')∧Below w.heap.size w w'∧w'.ownsRow w.heap.size 110 1 uv U.length (U.map enP)∧(∀ k,uv.ownBlock=some k→¬ F' k)∧FP F' w' rv A.2
theorem SiP.intro {tb:Nat} {S:List Stp} {es:List En} {lv:Value} {ab:Nat} {x0 y0:Int} {U:List En} {A:Nat × List Nat} (h:SfM B F tb mb N W S nx es sv lv w F0 ab x0 y0 uv U) (b:Bool) (hb:decide (A.1<N)=b) (hx:A.1<N→x0=((A.1:Nat):Int)∧y0=((Cm.ap A.2 A.1:Nat):Int)) (hr:FP F W rv A.2) :
  SiP B F0 tb mb N S nx es sv lv U A w (.returned (.tuple #[uv,rv,.agg #[.int .i64 x0,.int .i64 y0],.bool b])) W :=
 ⟨F,uv,rv,x0,y0,by rw [hb],hx,h.tm,h.gw,h.bl,h.row,fun k e=>(h.offr k e).1,hr⟩
theorem sift_t {tb:Nat} {S:List Stp} {es:List En} {lv:Value} (hp:Tb N gs S T es) (h:TbM B F0 tb mb N w S nx es es es sv lv) (hn1:1≤N) (hn2:N≤64) {x:List Nat} (hx:FP F0 w xv x) (gx:Cm.Gd N x) :
  Calls Tryz.prog 65 #[.pointer (some ⟨tb,0,none⟩),xv] w (SiP B F0 tb mb N S nx es sv lv (usE es N N x) (Cm.sfP N (Cm.idT N (trE es)) N x) w):=by
 obtain ⟨xb0,xo0,xc0,rfl⟩:=hx.shape' gx hn1;have HR:=ι hp.ok.rp;have HG:=ι (fun e he=>(hp.en e he).gd);obtain ⟨A,hA⟩:∃ A,Hid (A=Cm.sfP N (Cm.idT N (trE es)) N x):=⟨_,ι rfl⟩;obtain ⟨UU,hUU⟩:∃ U,Hid (U=usE es N N x):=⟨_,ι rfl⟩;rw [← hA.out,← hUU.out];have HS0:=ι (show Cm.sfP N (Cm.idT N (trE es)) (N - 0) x=A from hA.out.symm);have HU0:=ι (show []++usE es N (N - 0) x=UU from hUU.out.symm);have GX:=ι gx;have hba:Below w.heap.size w (w.alloc (.cells #[.int .i64 0,.int .i64 0] 106)):=(Below.refl _ _).alloc (Nat.le_refl _) _;have hpw:=Pw.new w;have hMl:=h.Mlt;have hFl:=h.Flt
 have SM:=ι (show SfM B F0 tb mb N (w.alloc (.cells #[.int .i64 0,.int .i64 0] 106)) S nx es sv lv w F0 w.heap.size 0 0 (.slice none 0 0) [] from
  ⟨h.below hba,(KG.refl hFl).kf' (KF.of_below hba),fun _=>.inl,hba,World.ownsRow_nil _ _ _ _,fun k e=>(by cases e),hpw,⟨fun e=>Nat.lt_irrefl _ (hFl _ e),Nat.le_refl _⟩,hMl⟩)
 have X:=ι (FP.kf hx (KF.of_below hba));obtain ⟨ab,hab⟩:∃ b,b=w.heap.size:=⟨_,rfl⟩;clear hba hpw hMl hFl hp h hx gx
 go_enter Tryz.func65,Tryz.ntmps65
 go_upto_region 0 with (fail);refine Rg.wl ?_;refine Rg.la 4 (.slice none 0 0) ?_;go_frame;refine Rg.la 5 (.slice none 0 0) ?_;go_frame;refine Rg.lr 6 (exec_allocP2 rfl) ?_;go_frame;refine Rg.la 7 (.bool false) ?_;go_frame;generalize hw0:w.alloc (.cells #[.int .i64 0,.int .i64 0] 106)=w0 at *;clear hw0;rw [← hab] at SM ⊢;go_upto_region 1 with (fail);refine Rg.wl ?_;refine Rg.la 8 (.int .i64 ((0:Nat):Int)) ?_;go_frame;go_wp2
 go_loopw [1,4,8] (fun yv uv iv wr=>∃ (i:Nat) (y:List Nat) (F1:Nat→Prop) (U:List En),i≤N∧iv=.int .i64 ((i:Nat):Int)∧Hid (FP F1 wr yv y)∧Hid (SfM B F1 tb mb N wr S nx es sv lv w F0 ab 0 0 uv U)∧Hid (Cm.Gd N y)∧Hid (Cm.sfP N (Cm.idT N (trE es)) (N - i) y=A)∧Hid (U++usE es N (N - i) y=UU)∧Hid (U.length≤i)) (fun _ _ iv _=>N - (intOf iv).toNat)
 case atStart=>exact ⟨0,x,F0,[],Nat.zero_le _,rfl,X,SM,GX,HS0,HU0,ι (Nat.le_refl 0)⟩
 case round =>
  clear X SM GX HS0 HU0;obtain ⟨i,y,F,U,hi,rfl,X,SM,GY,HS,HU,HUL⟩:=hrel;obtain ⟨ua,uc,hsh⟩:=Rg.row_shape SM.out.row;subst hsh;obtain ⟨xb,xo,xc,hsh⟩:=X.out.shape' GY.out hn1;subst hsh
  by_cases hin:i<N
  case neg =>
   obtain rfl:i=N:=by omega
   have HE:=ι (show A=(i,y) by rw [← HS.out,Nat.sub_self]; rfl);have HUE:=ι (show U=UU by have:=HU.out; rw [Nat.sub_self] at this; simpa [usE] using this);go_upto_region 2 with (fail);refine Rg.wl ?_;refine Rg.lm 10 (.int .i64 ((i:Nat):Int)) ?_;go_frame;refine Rg.lm 11 (.pointer (some ⟨tb,0,none⟩)) ?_;go_frame;refine Rg.lr 12 (exec_nil _ rfl rfl) ?_;go_frame;refine Rg.lr 13 (exec_field _ rfl rfl (tblF1 _ _)) ?_;go_frame;refine Rg.lr 14 (Rg.lo (.int .i64 ((i:Nat):Int)) ⟨tb,2,none⟩ (run_loadInt SM.out.tm.h2.c)) ?_;go_frame;refine Rg.lr 15 (Rg.bn (.bool false) .lss (h:=b_lss _ Rg.dF)) ?_;go_frame;go_upto_region 9 with (fail);have hV0:Below wr.heap.size wr wr.drew:=(Below.refl _ _).drew;replace X:=ι (X.out.up hV0);replace SM:=ι (SM.out.up hV0);generalize Fup F wr wr.drew=F1 at *;clear hV0;refine Rg.Any.begin (S:=Rg.Both 5 (fun W:World=>W.cell? ⟨ab,0,none⟩=some (.int .i64 0)∧W.cell? ⟨ab,1,none⟩=some (.int .i64 0)) (fun _=>True)) mix ?_
   generalize wr.drew=w11 at *;have hS:∀ (l:Array Bool) W,(fun W:World=>W.cell? ⟨ab,0,none⟩=some (.int .i64 0)∧W.cell? ⟨ab,1,none⟩=some (.int .i64 0)) W→Rg.Both 5 (fun W:World=>W.cell? ⟨ab,0,none⟩=some (.int .i64 0)∧W.cell? ⟨ab,1,none⟩=some (.int .i64 0)) (fun _=>True) l W:=fun l W h=>⟨.inr h,trivial⟩;have hS2:∀ (l:Array Bool) W,l.getD 5 false=true→Rg.Both 5 (fun W:World=>W.cell? ⟨ab,0,none⟩=some (.int .i64 0)∧W.cell? ⟨ab,1,none⟩=some (.int .i64 0)) (fun _=>True) l W:=fun l W h=>⟨.inl h,trivial⟩;have hI:(fun W:World=>W.cell? ⟨ab,0,none⟩=some (.int .i64 0)∧W.cell? ⟨ab,1,none⟩=some (.int .i64 0)) w11:=⟨SM.out.pw.c0.c,SM.out.pw.c1.c⟩;refine Rg.tm 0 5 (.slice ua U.length uc) 55 (hS _ _ hI) ?_;go_frame;refine Rg.tm 1 5 (.slice (some ⟨xb,xo,none⟩) i xc) 56 (hS _ _ hI) ?_;go_frame;refine Rg.tT 2 5 ((.agg #[.int .i64 0,.int .i64 0])) 57 rfl rfl (Rg.yc ⟨ab,0,none⟩ (fun W hW=>run_loadP2 hW.1 hW.2)) (hS _ _ hI) ?_;go_frame
   refine Rg.tg 3 5 (.slice ua U.length uc) 4 rfl rfl (.inl ⟨rfl,fun w _=>Rg.exec_assign (v:=.slice ua U.length uc) _ rfl rfl⟩) (hS _ _ hI) ?_;go_frame;refine Rg.tg 4 5 (.slice (some ⟨xb,xo,none⟩) i xc) 5 rfl rfl (.inl ⟨rfl,fun w _=>Rg.exec_assign (v:=.slice (some ⟨xb,xo,none⟩) i xc) _ rfl rfl⟩) (hS _ _ hI) ?_;go_frame;obtain ⟨hS9,hkf9⟩:=SM.out.set 0 0;have hX9:=FP.kf X.out hkf9;refine Rg.Any.one (i:=5) (by kernel_rfl) (Rg.Any.runSkip none rfl rfl rfl (Rg.exec_store _ _ _ rfl _ rfl _ rfl (SM.out.pw.run 0 0)) (hS2 _ _ rfl) ?_);go_frame;refine Rg.tg 6 5 (.bool false) 7 rfl rfl (.inl ⟨rfl,fun w _=>Rg.exec_assign (v:=.bool false) _ rfl rfl⟩) (hS2 _ _ rfl) ?_;go_frame;refine Rg.Any.done (by kernel_rfl) ?_ _;clear hS2;clear hS hI;generalize (w11.setCell ⟨ab,0,none⟩ (.int .i64 0)).setCell ⟨ab,1,none⟩ (.int .i64 0)=w9 at *;have HPW:=ι hS9.pw
   have HFI:=ι (show SiP B F0 tb mb i S nx es sv lv UU A w (.returned (.tuple #[.slice ua U.length uc,.slice (some ⟨xb,xo,none⟩) i xc,.agg #[.int .i64 0,.int .i64 0],.bool false])) w9 from by
    rw [← HUE.out]
    exact SiP.intro hS9 false (by rw [HE.out]; simp) (fun h=>by rw [HE.out] at h; exact absurd h (Nat.lt_irrefl _)) (by rw [HE.out]; exact hX9))
   clear hS9 hX9 hkf9;go_wp2;exact bodyPost_ret (results_sift (t:=4) (u:=5) (p:=6) (v:=7) rfl _ rfl rfl rfl rfl HPW.out) rfl HFI.out
  case pos =>
   have HIN:=ι hin;have hqn:=Cm.ap_lt GY.out hin;obtain ⟨q,hq⟩:∃ q:Nat,Hid (q=Cm.ap y i):=⟨_,ι rfl⟩;rw [← hq.out] at hqn;have CX:=ι (show CF F wr xb (xo+i) (.int .i64 ((q:Nat):Int)) by rw [hq.out]; exact X.out.ap GY.out hin);go_upto_region 2 with (fail);refine Rg.wl ?_;refine Rg.lm 10 (.int .i64 ((i:Nat):Int)) ?_;go_frame;refine Rg.lm 11 (.pointer (some ⟨tb,0,none⟩)) ?_;go_frame;refine Rg.lr 12 (exec_nil _ rfl rfl) ?_;go_frame;refine Rg.lr 13 (exec_field _ rfl rfl (tblF1 _ _)) ?_;go_frame;refine Rg.lr 14 (Rg.lo (.int .i64 ((N:Nat):Int)) ⟨tb,2,none⟩ (run_loadInt SM.out.tm.h2.c)) ?_;go_frame;refine Rg.lr 15 (Rg.bn (.bool true) .lss (h:=b_lss _ Rg.dT)) ?_;go_frame
   by_cases hqi:q=i
   case pos =>
    have hqN:(q:Int)=(i:Int):=by omega
    have HY:=ι (show Cm.sfP N (Cm.idT N (trE es)) (N - (i+1)) y=A by rw [← HS.out]; exact (sfP_eq hin GY.out (by rw [← hq.out]; exact hqi)).symm);have HU2:=ι (show U++usE es N (N - (i+1)) y=UU by rw [← HU.out,usE_eq hin (by rw [← hq.out]; exact hqi)]);have HUL2:=ι (show U.length≤i+1 from Nat.le_succ_of_le HUL.out);clear hqi;go_upto_region 4 with (fail);refine Rg.wl ?_;refine Rg.lm 18 (.slice (some ⟨xb,xo,none⟩) N xc) ?_;go_frame;refine Rg.lm 19 (.int .i64 ((i:Nat):Int)) ?_;go_frame;refine Rg.lr 20 (exec_indexS slPerm _ _ rfl xb (xo) (N) xc (i) rfl rfl HIN.out) ?_;go_frame;refine Rg.lr 21 (Rg.lo (.int .i64 ((q:Nat):Int)) ⟨xb,xo+i,none⟩ (run_loadInt CX.out.cell)) ?_;go_frame;refine Rg.lm 22 (.int .i64 ((i:Nat):Int)) ?_;go_frame;refine Rg.lr 23 (Rg.bn (.bool true) .eql (h:=b_eql _ Rg.dT)) ?_;go_frame;go_upto_region 3 with (fail);refine Rg.wl ?_;refine Rg.lm 16 (.int .i64 ((i:Nat):Int)) ?_;go_frame
    refine Rg.lr 17 (Rg.bn (.int .i64 (((i+1):Nat):Int)) .add (h:=b_add _ (by omega) (by omega))) ?_;go_frame;refine Rg.la 8 (.int .i64 (((i+1):Nat):Int)) ?_;go_frame;go_wp2
    go_roundw
    case rel=>exact ⟨i+1,y,_,U,HIN.out,by go_num,X,SM,GY,HY,HU2,HUL2⟩
    case measure=>simp [intOf]; have:=HIN.out; omega
   case neg =>
    have hqN:¬ (q:Int)=(i:Int):=by omega
    have HQI:=ι (show Cm.ap y i≠i by rw [← hq.out]; exact hqi);clear hqi;go_upto_region 4 with (fail);refine Rg.wl ?_;refine Rg.lm 18 (.slice (some ⟨xb,xo,none⟩) N xc) ?_;go_frame;refine Rg.lm 19 (.int .i64 ((i:Nat):Int)) ?_;go_frame;refine Rg.lr 20 (exec_indexS slPerm _ _ rfl xb (xo) (N) xc (i) rfl rfl HIN.out) ?_;go_frame;refine Rg.lr 21 (Rg.lo (.int .i64 ((q:Nat):Int)) ⟨xb,xo+i,none⟩ (run_loadInt CX.out.cell)) ?_;go_frame;refine Rg.lm 22 (.int .i64 ((i:Nat):Int)) ?_;go_frame;refine Rg.lr 23 (Rg.bn (.bool false) .eql (h:=b_eql _ Rg.dF)) ?_;go_frame
    cases hfe:fnd es i q with
    | none =>
     have HFE:=ι hfe;have HE:=ι (show A=(i,y) by rw [← HS.out]; exact sfP_no hin HQI.out (by rw [← hq.out]; exact hfe));have HUE:=ι (show U=UU by rw [← HU.out,usE_none hin HQI.out (by rw [← hq.out]; exact hfe),List.append_nil]);clear hfe;go_upto_region 5 with (fail);have hV0:Below wr.heap.size wr wr.drew:=(Below.refl _ _).drew;replace X:=ι (X.out.up hV0);replace SM:=ι (SM.out.up hV0);replace CX:=ι (CX.out.up hV0);generalize Fup F wr wr.drew=F1 at *;clear hV0;refine Rg.Any.begin (S:=Rg.Both 11 (fun W:World=>W.cell? ⟨tb,3,none⟩=some (.map (some mb))∧W.cell? ⟨xb,xo+i,none⟩=some (.int .i64 ((q:Nat):Int))) (fun _=>True)) mix ?_;generalize wr.drew=w21 at *;have hS:∀ (l:Array Bool) W,(fun W:World=>W.cell? ⟨tb,3,none⟩=some (.map (some mb))∧W.cell? ⟨xb,xo+i,none⟩=some (.int .i64 ((q:Nat):Int))) W→Rg.Both 11 (fun W:World=>W.cell? ⟨tb,3,none⟩=some (.map (some mb))∧W.cell? ⟨xb,xo+i,none⟩=some (.int .i64 ((q:Nat):Int))) (fun _=>True) l W:=fun l W h=>⟨.inr h,trivial⟩
     have hS2:∀ (l:Array Bool) W,l.getD 11 false=true→Rg.Both 11 (fun W:World=>W.cell? ⟨tb,3,none⟩=some (.map (some mb))∧W.cell? ⟨xb,xo+i,none⟩=some (.int .i64 ((q:Nat):Int))) (fun _=>True) l W:=fun l W h=>⟨.inl h,trivial⟩;have hI:(fun W:World=>W.cell? ⟨tb,3,none⟩=some (.map (some mb))∧W.cell? ⟨xb,xo+i,none⟩=some (.int .i64 ((q:Nat):Int))) w21:=⟨SM.out.tm.h3.c,CX.out.cell⟩;refine Rg.tm 0 11 (.pointer (some ⟨tb,0,none⟩)) 24 (hS _ _ hI) ?_;go_frame;refine Rg.tg 1 11 (.pointer (some ⟨tb,0,none⟩)) 25 rfl rfl (.inl ⟨rfl,fun w _=>exec_nil _ rfl rfl⟩) (hS _ _ hI) ?_;go_frame;refine Rg.tg 2 11 (.pointer (some ⟨tb,3,none⟩)) 26 rfl rfl (.inl ⟨rfl,fun w _=>exec_field _ rfl rfl (tblF2 _ _)⟩) (hS _ _ hI) ?_;go_frame;refine Rg.tT 3 11 ((.map (some mb))) 27 rfl rfl (Rg.yc ⟨tb,3,none⟩ (fun W hW=>run_loadME hW.1)) (hS _ _ hI) ?_;go_frame
     refine Rg.tm 4 11 (.int .i64 ((i:Nat):Int)) 28 (hS _ _ hI) ?_;go_frame;refine Rg.tm 5 11 (.slice (some ⟨xb,xo,none⟩) N xc) 29 (hS _ _ hI) ?_;go_frame;refine Rg.tm 6 11 (.int .i64 ((i:Nat):Int)) 30 (hS _ _ hI) ?_;go_frame;refine Rg.tg 7 11 (.pointer (some ⟨xb,xo+i,none⟩)) 31 rfl rfl (Rg.yields_index slPerm _ _ rfl rfl xb (xo) (N) xc (i) rfl rfl HIN.out) (hS _ _ hI) ?_;go_frame;refine Rg.tT 8 11 (.int .i64 ((q:Nat):Int)) 32 rfl rfl (Rg.yc ⟨xb,xo+i,none⟩ (fun W hW=>run_loadInt hW.2)) (hS _ _ hI) ?_;go_frame;refine Rg.tg 9 11 ((.agg #[.int .i64 ((i:Nat):Int),.int .i64 ((q:Nat):Int)])) 33 rfl rfl (.inl ⟨rfl,fun w _=>exec_buildKy _ _ rfl rfl rfl⟩) (hS _ _ hI) ?_;go_frame;have hlk:=Jm.lookup_no ktT SM.out.tm.mp (i,q);rw [look_fnd,HFE.out] at hlk;refine Rg.aR 10 34 rfl rfl (Rg.exec_lookup _ _ _ _ rfl _ _ rfl rfl hlk) (hS _ _ hI) ?_;go_frame;refine Rg.aR 11 9 rfl rfl (Rg.xa ((.pointer none)) _ rfl rfl) (hS2 _ _ rfl) ?_;go_frame
     refine Rg.Any.done (by kernel_rfl) ?_ _;clear hS2;clear hS hI;go_upto_region 6 with (fail);refine Rg.wl ?_;refine Rg.lm 35 ((.pointer none)) ?_;go_frame;refine Rg.lr 36 (exec_pnilT _ _ rfl rfl rfl) ?_;go_frame;go_upto_region 7 with (fail);have hV0:Below w21.heap.size w21 w21.drew:=(Below.refl _ _).drew;replace X:=ι (X.out.up hV0);replace SM:=ι (SM.out.up hV0);replace CX:=ι (CX.out.up hV0);generalize Fup F1 w21 w21.drew=F2 at *;clear hV0;refine Rg.Any.begin (S:=Rg.Both 10 (fun W:World=>W.cell? ⟨xb,xo+i,none⟩=some (.int .i64 ((q:Nat):Int))) (fun _=>True)) mix ?_;generalize w21.drew=w22 at *;have hS:∀ (l:Array Bool) W,(fun W:World=>W.cell? ⟨xb,xo+i,none⟩=some (.int .i64 ((q:Nat):Int))) W→Rg.Both 10 (fun W:World=>W.cell? ⟨xb,xo+i,none⟩=some (.int .i64 ((q:Nat):Int))) (fun _=>True) l W:=fun l W h=>⟨.inr h,trivial⟩;have hS2:∀ (l:Array Bool) W,l.getD 10 false=true→Rg.Both 10 (fun W:World=>W.cell? ⟨xb,xo+i,none⟩=some (.int .i64 ((q:Nat):Int))) (fun _=>True) l W:=fun l W h=>⟨.inl h,trivial⟩
     have hI:(fun W:World=>W.cell? ⟨xb,xo+i,none⟩=some (.int .i64 ((q:Nat):Int))) w22:=CX.out.cell;refine Rg.tm 0 10 (.slice ua U.length uc) 37 (hS _ _ hI) ?_;go_frame;refine Rg.tm 1 10 (.slice (some ⟨xb,xo,none⟩) N xc) 38 (hS _ _ hI) ?_;go_frame;refine Rg.tm 2 10 (.int .i64 ((i:Nat):Int)) 39 (hS _ _ hI) ?_;go_frame;refine Rg.tm 3 10 (.slice (some ⟨xb,xo,none⟩) N xc) 40 (hS _ _ hI) ?_;go_frame;refine Rg.tm 4 10 (.int .i64 ((i:Nat):Int)) 41 (hS _ _ hI) ?_;go_frame;refine Rg.tg 5 10 (.pointer (some ⟨xb,xo+i,none⟩)) 42 rfl rfl (Rg.yields_index slPerm _ _ rfl rfl xb (xo) (N) xc (i) rfl rfl HIN.out) (hS _ _ hI) ?_;go_frame;refine Rg.tT 6 10 (.int .i64 ((q:Nat):Int)) 43 rfl rfl (Rg.yc ⟨xb,xo+i,none⟩ (fun W hW=>run_loadInt hW)) (hS _ _ hI) ?_;go_frame;refine Rg.tg 7 10 ((.agg #[.int .i64 ((i:Nat):Int),.int .i64 ((q:Nat):Int)])) 44 rfl rfl (.inl ⟨rfl,fun w _=>exec_buildKy _ _ rfl rfl rfl⟩) (hS _ _ hI) ?_;go_frame
     refine Rg.tg 8 10 (.slice ua U.length uc) 4 rfl rfl (.inl ⟨rfl,fun w _=>Rg.exec_assign (v:=.slice ua U.length uc) _ rfl rfl⟩) (hS _ _ hI) ?_;go_frame;refine Rg.tg 9 10 (.slice (some ⟨xb,xo,none⟩) N xc) 5 rfl rfl (.inl ⟨rfl,fun w _=>Rg.exec_assign (v:=.slice (some ⟨xb,xo,none⟩) N xc) _ rfl rfl⟩) (hS _ _ hI) ?_;go_frame;obtain ⟨hS9,hkf9⟩:=SM.out.set ((i:Nat):Int) ((q:Nat):Int);have hX9:=FP.kf X.out hkf9;refine Rg.Any.one (i:=10) (by kernel_rfl) (Rg.Any.runSkip none rfl rfl rfl (Rg.exec_store _ _ _ rfl _ rfl _ rfl (SM.out.pw.run ((i:Nat):Int) ((q:Nat):Int))) (hS2 _ _ rfl) ?_);go_frame;refine Rg.tg 11 10 (.bool true) 7 rfl rfl (.inl ⟨rfl,fun w _=>Rg.exec_assign (v:=.bool true) _ rfl rfl⟩) (hS2 _ _ rfl) ?_;go_frame;refine Rg.Any.done (by kernel_rfl) ?_ _;clear hS2;clear hS hI;generalize (w22.setCell ⟨ab,0,none⟩ (.int .i64 ((i:Nat):Int))).setCell ⟨ab,1,none⟩ (.int .i64 ((q:Nat):Int))=w9 at *
     have HPW:=ι hS9.pw
     have HFI:=ι (show SiP B F0 tb mb N S nx es sv lv UU A w (.returned (.tuple #[.slice ua U.length uc,.slice (some ⟨xb,xo,none⟩) N xc,.agg #[.int .i64 ((i:Nat):Int),.int .i64 ((q:Nat):Int)],.bool true])) w9 from by
      rw [← HUE.out]
      exact SiP.intro hS9 true (by rw [HE.out]; simpa using HIN.out) (fun _=>by rw [HE.out]; exact ⟨rfl,by rw [hq.out]⟩) (by rw [HE.out]; exact hX9))
     clear hS9 hX9 hkf9;go_wp2;exact bodyPost_ret (results_sift (t:=4) (u:=5) (p:=6) (v:=7) rfl _ rfl rfl rfl rfl HPW.out) rfl HFI.out
    | some e =>
     have HFE:=ι hfe;have hmem:=(fnd_mem hfe).1;have HEM:=ι hmem;have HY:=ι (show Cm.sfP N (Cm.idT N (trE es)) (N - (i+1)) (Ma.mulN y (Ma.invN e.x))=A by rw [← HS.out]; exact (sfP_yes hin HQI.out (by rw [← hq.out]; exact hfe)).symm);have HU2:=ι (show (U++[e])++usE es N (N - (i+1)) (Ma.mulN y (Ma.invN e.x))=UU by rw [← HU.out,usE_some hin HQI.out (by rw [← hq.out]; exact hfe),List.append_assoc]; rfl);have GI:=ι (Cm.gd_inv (HG.out e hmem));have GY2:=ι (Cm.gd_mul GY.out GI.out);have HUL2:=ι (show (U++[e]).length≤i+1 by rw [List.length_append]; exact Nat.succ_le_succ HUL.out)
     have hul:U.length<100:=by have:=HUL.out; omega
     clear hfe hmem;go_upto_region 5 with (fail);have hV0:Below wr.heap.size wr wr.drew:=(Below.refl _ _).drew;replace X:=ι (X.out.up hV0);replace SM:=ι (SM.out.up hV0);replace CX:=ι (CX.out.up hV0);generalize Fup F wr wr.drew=F1 at *;clear hV0;refine Rg.Any.begin (S:=Rg.Both 11 (fun W:World=>W.cell? ⟨tb,3,none⟩=some (.map (some mb))∧W.cell? ⟨xb,xo+i,none⟩=some (.int .i64 ((q:Nat):Int))) (fun _=>True)) mix ?_;generalize wr.drew=w33 at *;have hS:∀ (l:Array Bool) W,(fun W:World=>W.cell? ⟨tb,3,none⟩=some (.map (some mb))∧W.cell? ⟨xb,xo+i,none⟩=some (.int .i64 ((q:Nat):Int))) W→Rg.Both 11 (fun W:World=>W.cell? ⟨tb,3,none⟩=some (.map (some mb))∧W.cell? ⟨xb,xo+i,none⟩=some (.int .i64 ((q:Nat):Int))) (fun _=>True) l W:=fun l W h=>⟨.inr h,trivial⟩;have hS2:∀ (l:Array Bool) W,l.getD 11 false=true→Rg.Both 11 (fun W:World=>W.cell? ⟨tb,3,none⟩=some (.map (some mb))∧W.cell? ⟨xb,xo+i,none⟩=some (.int .i64 ((q:Nat):Int))) (fun _=>True) l W:=fun l W h=>⟨.inl h,trivial⟩
     have hI:(fun W:World=>W.cell? ⟨tb,3,none⟩=some (.map (some mb))∧W.cell? ⟨xb,xo+i,none⟩=some (.int .i64 ((q:Nat):Int))) w33:=⟨SM.out.tm.h3.c,CX.out.cell⟩;refine Rg.tm 0 11 (.pointer (some ⟨tb,0,none⟩)) 24 (hS _ _ hI) ?_;go_frame;refine Rg.tg 1 11 (.pointer (some ⟨tb,0,none⟩)) 25 rfl rfl (.inl ⟨rfl,fun w _=>exec_nil _ rfl rfl⟩) (hS _ _ hI) ?_;go_frame;refine Rg.tg 2 11 (.pointer (some ⟨tb,3,none⟩)) 26 rfl rfl (.inl ⟨rfl,fun w _=>exec_field _ rfl rfl (tblF2 _ _)⟩) (hS _ _ hI) ?_;go_frame;refine Rg.tT 3 11 ((.map (some mb))) 27 rfl rfl (Rg.yc ⟨tb,3,none⟩ (fun W hW=>run_loadME hW.1)) (hS _ _ hI) ?_;go_frame;refine Rg.tm 4 11 (.int .i64 ((i:Nat):Int)) 28 (hS _ _ hI) ?_;go_frame;refine Rg.tm 5 11 (.slice (some ⟨xb,xo,none⟩) N xc) 29 (hS _ _ hI) ?_;go_frame;refine Rg.tm 6 11 (.int .i64 ((i:Nat):Int)) 30 (hS _ _ hI) ?_;go_frame;refine Rg.tg 7 11 (.pointer (some ⟨xb,xo+i,none⟩)) 31 rfl rfl (Rg.yields_index slPerm _ _ rfl rfl xb (xo) (N) xc (i) rfl rfl HIN.out) (hS _ _ hI) ?_;go_frame
     refine Rg.tT 8 11 (.int .i64 ((q:Nat):Int)) 32 rfl rfl (Rg.yc ⟨xb,xo+i,none⟩ (fun W hW=>run_loadInt hW.2)) (hS _ _ hI) ?_;go_frame;refine Rg.tg 9 11 ((.agg #[.int .i64 ((i:Nat):Int),.int .i64 ((q:Nat):Int)])) 33 rfl rfl (.inl ⟨rfl,fun w _=>exec_buildKy _ _ rfl rfl rfl⟩) (hS _ _ hI) ?_;go_frame;have hlk:=Jm.lookup_no ktT SM.out.tm.mp (i,q);rw [look_fnd,HFE.out] at hlk;refine Rg.aR 10 34 rfl rfl (Rg.exec_lookup _ _ _ _ rfl _ _ rfl rfl hlk) (hS _ _ hI) ?_;go_frame;refine Rg.aR 11 9 rfl rfl (Rg.xa (.pointer (some ⟨e.b,0,none⟩)) _ rfl rfl) (hS2 _ _ rfl) ?_;go_frame;refine Rg.Any.done (by kernel_rfl) ?_ _;clear hS2;clear hS hI;go_upto_region 6 with (fail);refine Rg.wl ?_;refine Rg.lm 35 (.pointer (some ⟨e.b,0,none⟩)) ?_;go_frame;refine Rg.lr 36 (exec_pnilF _ _ rfl rfl rfl) ?_;go_frame;obtain ⟨xv9,yv,q9⟩:=SM.out.tm.en e HEM.out;have UY:=ι q9.y;have CY:=ι q9.c1
     have HCY:=ι ((show Below w33.heap.size w33 w33.drew from (Below.refl _ _).drew).cell (p:=⟨e.b,1,none⟩) CY.out.lt);clear q9;go_upto_region 8 with (fail);have hV0:Below w33.heap.size w33 w33.drew:=(Below.refl _ _).drew;replace X:=ι (X.out.up hV0);replace SM:=ι (SM.out.up hV0);replace UY:=ι (UY.out.up hV0);generalize Fup F1 w33 w33.drew=F2 at *;clear hV0;refine Rg.Any.begin (S:=Rg.Both 9 (fun W:World=>W.cell? ⟨e.b,1,none⟩=some yv) (fun _=>True)) mix ?_;generalize w33.drew=w34 at *;have hS:∀ (l:Array Bool) W,(fun W:World=>W.cell? ⟨e.b,1,none⟩=some yv) W→Rg.Both 9 (fun W:World=>W.cell? ⟨e.b,1,none⟩=some yv) (fun _=>True) l W:=fun l W h=>⟨.inr h,trivial⟩;have hS2:∀ (l:Array Bool) W,l.getD 9 false=true→Rg.Both 9 (fun W:World=>W.cell? ⟨e.b,1,none⟩=some yv) (fun _=>True) l W:=fun l W h=>⟨.inl h,trivial⟩;have hI:(fun W:World=>W.cell? ⟨e.b,1,none⟩=some yv) w34:=HCY.out.trans CY.out.c
     refine Rg.tm 0 9 (.slice ua U.length uc) 45 (hS _ _ hI) ?_;go_frame;refine Rg.tm 1 9 (.pointer (some ⟨e.b,0,none⟩)) 46 (hS _ _ hI) ?_;go_frame;refine Rg.tm 4 9 (.slice (some ⟨xb,xo,none⟩) N xc) 49 (hS _ _ hI) ?_;go_frame;refine Rg.tm 5 9 (.pointer (some ⟨e.b,0,none⟩)) 50 (hS _ _ hI) ?_;go_frame;refine Rg.tg 6 9 (.pointer (some ⟨e.b,0,none⟩)) 51 rfl rfl (.inl ⟨rfl,fun w _=>exec_nil _ rfl rfl⟩) (hS _ _ hI) ?_;go_frame;refine Rg.tg 7 9 (.pointer (some ⟨e.b,1,none⟩)) 52 rfl rfl (.inl ⟨rfl,fun w _=>exec_field _ rfl rfl (enF1 _ _)⟩) (hS _ _ hI) ?_;go_frame;refine Rg.tT 8 9 (yv) 53 rfl rfl (Rg.yc ⟨e.b,1,none⟩ (fun W hW=>Rg.run_loadSl _ _ Tryz.underlying30 hW)) (hS _ _ hI) ?_;go_frame;obtain ⟨a9,c9,X9,r1,hS9,hkf9,hk9⟩:=SM.out.push e (by omega) 102;have hba:Below w34.heap.size w34 (w34.alloc (.cells #[enP e] 110)):=(Below.refl _ _).alloc (Nat.le_refl _) _;have hcy1:w34.cell? ⟨e.b,1,none⟩=some yv:=HCY.out.trans CY.out.c
     have hlt1:e.b<w34.heap.size:=by
      obtain ⟨_,_,q8⟩:=SM.out.tm.en e HEM.out;exact q8.c0.lt
     have hI2_m:=(show (fun W:World=>W.cell? ⟨e.b,1,none⟩=some yv) (w34.alloc (.cells #[enP e] 110)) from (hba.cell (p:=⟨e.b,1,none⟩) hlt1).trans hcy1);refine Rg.aR 2 47 rfl rfl (Rg.exec_buildSlice _ _ _ rfl (.pointer (some ⟨e.b,0,none⟩)) rfl (run_build1E w34 _)) (hS _ _ hI2_m) ?_;go_frame
     have hcy9:X9.cell? ⟨e.b,1,none⟩=some yv:=(World.cell?_of_block (a:=⟨e.b,1,none⟩) (hk9.block e.b hlt1 (fun h=>by
      have:=SM.out.mlt e.b (.inr (.inr (.inr (.inr ⟨e,HEM.out,rfl⟩))));have:=(World.ownsRow.lt SM.out.row e.b h).1
      omega))).trans hcy1
     have hI3_m:=(show (fun W:World=>W.cell? ⟨e.b,1,none⟩=some yv) X9 from hcy9);refine Rg.aR 3 48 rfl rfl (Rg.exec_append _ _ _ rfl rfl rfl r1) (hS _ _ hI3_m) ?_;go_frame;replace X:=ι (FP.kf X.out hkf9);replace UY:=ι (FP.kf UY.out hkf9);replace SM:=ι hS9;clear hS9 hkf9 hk9 r1 hba hcy9 hcy1 hlt1;refine Rg.Any.one (i:=9) (by kernel_rfl) (Rg.Any.ask (some 54) rfl rfl rfl _ _ (exec_fn 44 _ _ _ rfl rfl rfl (Bgcl6 _ _)) ?_);refine (fcMul_f X.out UY.out GY.out GI.out hn1 hn2).mono ?_;rintro e1 w35 ⟨mv,rfl,hmv,hb⟩;have hI4_u:=trivial;clear hI3_m;replace X:=ι (X.out.up hb);replace SM:=ι (SM.out.up hb);replace UY:=ι (UY.out.up hb);have MV:=ι hmv;generalize Fup F2 X9 w35=F3 at *;clear hb;refine ⟨_,rfl,(hS2 _ _ rfl),?_⟩;go_frame;refine Rg.tg 10 9 (.slice a9 (U.length+1) c9) 4 rfl rfl (.inl ⟨rfl,fun w _=>Rg.exec_assign (v:=.slice a9 (U.length+1) c9) _ rfl rfl⟩) (hS2 _ _ rfl) ?_;go_frame
     refine Rg.tg 11 9 (mv) 1 rfl rfl (.inl ⟨rfl,fun w _=>Rg.exec_assign (v:=mv) _ rfl rfl⟩) (hS2 _ _ rfl) ?_;go_frame;refine Rg.Any.done (by kernel_rfl) ?_ _;clear hS2;clear hS hI4_u;go_upto_region 3 with (fail);refine Rg.wl ?_;refine Rg.lm 16 (.int .i64 ((i:Nat):Int)) ?_;go_frame;refine Rg.lr 17 (Rg.bn (.int .i64 (((i+1):Nat):Int)) .add (h:=b_add _ (by omega) (by omega))) ?_;go_frame;refine Rg.la 8 (.int .i64 (((i+1):Nat):Int)) ?_;go_frame;clear hmv;go_wp2
     go_roundw
     case rel=>exact ⟨i+1,_,_,U++[e],HIN.out,by go_num,MV,SM,GY2,HY,HU2,HUL2⟩
     case measure=>simp [intOf]; have:=HIN.out; omega

theorem Dhcl0 (args:Array Value) (w:World):(callFunc 65 args).run Tryz.prog w=.ok (.enter 65 args) w:=by kernel_rfl
theorem Dhcl1 (args:Array Value) (w:World):(callFunc 113 args).run Tryz.prog w=.ok (.enter 113 args) w:=by kernel_rfl
theorem Dhcl2 (args:Array Value) (w:World):(callFunc 114 args).run Tryz.prog w=.ok (.enter 114 args) w:=by kernel_rfl
abbrev key5 (e:En):Nat × Nat × Nat × List Nat × Nat:=(e.b,e.i,e.p,e.x,e.at_)
def pvL (T:List (List Nat)):List Nat→List Nat
 | []=>[]
 | a :: l=>l.foldl (fun y k=>Ma.mulN y (T.getD k [])) (T.getD a [])
theorem pvL_snoc {l:List Nat} (h:1≤l.length) (k:Nat):pvL T (l++[k])=Ma.mulN (pvL T l) (T.getD k []):=by
 match l,h with
 | a :: l,_=>show (l++[k]).foldl _ _=_; rw [List.foldl_append]; rfl
theorem getD_pre (h:T <+: T') (hk:∃ z,T[k]?=some z):T'.getD k []=T.getD k []:=by
 obtain ⟨z,hz⟩:=hk;rw [List.getD_eq_getElem?_getD,List.getD_eq_getElem?_getD,hz,pre_at h hz]
theorem pvL_mono (h:T <+: T') {l:List Nat} (hl:∀ k∈l,∃ z,T[k]?=some z):pvL T' l=pvL T l:=by
 match l,hl with
 | [],_=>rfl
 | a :: l,hl =>
  show l.foldl (fun y k=>Ma.mulN y (T'.getD k [])) (T'.getD a [])=l.foldl (fun y k=>Ma.mulN y (T.getD k [])) (T.getD a []);rw [getD_pre h (hl a (List.mem_cons_self ..))];have hl2:∀ k∈l,∃ z,T[k]?=some z:=fun k hk=>hl k (List.mem_cons_of_mem _ hk);clear hl;generalize T.getD a []=y0
  induction l generalizing y0 with
  | nil=>rfl
  | cons b l ih =>
   show l.foldl _ (Ma.mulN y0 (T'.getD b []))=l.foldl _ (Ma.mulN y0 (T.getD b []));rw [getD_pre h (hl2 b (List.mem_cons_self ..))];exact ih (fun k hk=>hl2 k (List.mem_cons_of_mem _ hk)) _
structure InsR (N:Nat) (gs:List (List Nat)) (S:List Stp) (T:List (List Nat)) (es:List En) (x:List Nat) (S':List Stp) (T':List (List Nat)) (es':List En):Prop where
 tb:Tb N gs S' T' es'
 pre:T <+: T'
 key:es.map key5 <+: es'.map key5
 mono:∀ i p u,Cm.idT N (trE es) i p=some u→Cm.idT N (trE es') i p=some u
 sd:Cm.Sd N (Cm.idT N (trE es')) N x
 bd:S'.length+es.length*(2*N+2)≤S.length+es'.length*(2*N+2)
theorem InsR.same {N:Nat} {gs:List (List Nat)} (hg:∀ s∈gs,Cm.Gd N s) {S:List Stp} {T:List (List Nat)} {es:List En} {x:List Nat} (h:Tb N gs S T es) (hx:Cm.Gr N (·∈gs) x) (hA:¬ (Cm.sfP N (Cm.idT N (trE es)) N x).1<N):InsR N gs S T es x S T es :=
 ⟨h,List.prefix_rfl,List.prefix_rfl,fun _ _ _=>id,h.same hg hx hA,Nat.le_refl _⟩
structure IvR (N:Nat) (gs:List (List Nat)) (S:List Stp) (T:List (List Nat)) (es:List En) (m:Nat) (x:List Nat) (U:List En) (k:Nat) (S1:List Stp) (T1:List (List Nat)) (es1:List En) (parts1:List Nat):Prop where
 tb:Tb N gs S1 T1 es1
 pre:T <+: T1
 tr:trE es1=trE es
 key:es1.map key5=es.map key5
 sl:S1.length≤S.length+k
 pl:parts1.length=m+k
 pa:∀ j∈parts1,∃ z,T1[j]?=some z
 pv:pvL T1 parts1=(U.take k).foldl (fun y e=>Ma.mulN y (Ma.invN e.x)) x
theorem key5_mem {es es1:List En} (h:es1.map key5=es.map key5) {e:En} (he:e∈es):∃ e1∈es1,e1.b=e.b∧e1.x=e.x:=by
 have h1:key5 e∈es1.map key5:=by rw [h]; exact List.mem_map_of_mem he
 obtain ⟨e1,h2,h3⟩:=List.mem_map.1 h1;simp only [key5,Prod.mk.injEq] at h3;exact ⟨e1,h2,h3.1,h3.2.2.2.1⟩
theorem IvR.step {S:List Stp} {es:List En} (hm:1≤m) {x:List Nat} {U:List En} {S1:List Stp} {T1:List (List Nat)} {es1:List En} {parts1:List Nat} (h:IvR N gs S T es m x U k S1 T1 es1 parts1) {e:En} (he:U[k]?=some e)
  {S2:List Stp} {T2:List (List Nat)} {es2:List En} (hj:T2[j]?=some (Ma.invN e.x)) (hT:T1 <+: T2) (hS:S2.length≤S1.length+1) (htb:Tb N gs S2 T2 es2) (htr:trE es2=trE es1) (hk:es2.map key5=es1.map key5):IvR N gs S T es m x U (k+1) S2 T2 es2 (parts1++[j]):=by
 obtain ⟨hkl,he2⟩:=List.getElem?_eq_some_iff.1 he;have hsl:=h.sl;have hpl:=h.pl;refine ⟨htb,h.pre.trans hT,htr.trans h.tr,hk.trans h.key,by omega,by rw [List.length_append,hpl]; rfl,fun q hq=>?_,?_⟩
 ·rcases List.mem_append.1 hq with hq | hq
  ·obtain ⟨z,hz⟩:=h.pa q hq
   exact ⟨z,pre_at hT hz⟩
  ·rw [List.mem_singleton] at hq; subst hq; exact ⟨_,hj⟩
 ·rw [pvL_snoc (by omega),pvL_mono hT h.pa,h.pv,List.take_succ_eq_append_getElem hkl,List.foldl_append,he2,List.getD_eq_getElem?_getD,hj]
  rfl
theorem IvR.put {N:Nat} {gs:List (List Nat)} (hg:∀ s∈gs,Cm.Gd N s) {S:List Stp} {T:List (List Nat)} {es:List En} {m:Nat} {x:List Nat} {U:List En} {S1:List Stp} {T1:List (List Nat)} {es1:List En} {parts1:List Nat} (h:IvR N gs S T es m x U U.length S1 T1 es1 parts1) (hU:U.length≤N) (hm:m≤2) (hgx:Cm.Gr N (·∈gs) x)
  {i:Nat} {y:List Nat} (hA:Cm.sfP N (Cm.idT N (trE es)) N x=(i,y)) (hi:i<N) {S2:List Stp} {T2:List (List Nat)} {n a:Nat} (hn:n+1=parts1.length) (hS2:S2.length=S1.length+n) (hMk:Mk N gs S2 T2) (hT:T1 <+: T2) (ha:T2[a]?=some y) (b:Nat) :
  InsR N gs S T es x S2 T2 (es1++[⟨b,i,Cm.ap y i,y,a,-1⟩]):=by
 have hA1:Cm.sfP N (Cm.idT N (trE es1)) N x=(i,y):=by rw [h.tr]; exact hA
 obtain ⟨q1,q2,q3⟩:=(h.tb.grow hMk hT).put hg hgx hA1 hi (b:=b) ha
 have hl:es1.length=es.length:=by have:=congrArg List.length h.key; simpa using this
 have hpl:=h.pl;have hsl:=h.sl;refine ⟨q1,h.pre.trans hT,?_,by rw [← h.tr]; exact q2,q3,?_⟩
 ·rw [List.map_append,h.key]; exact ⟨_,rfl⟩
 ·rw [List.length_append,hl,List.length_singleton,Nat.add_mul]
  omega
theorem usE_fnd {es:List En} {S:List Stp} (h:Tb N gs S T es) {x y:List Nat} (gx:Cm.Gd N x) {i:Nat} (hA:Cm.sfP N (Cm.idT N (trE es)) N x=(i,y)) (hi:i<N):fnd es i (Cm.ap y i)=none:=by
 obtain ⟨a1,_,a3,a4,a5⟩:=Cm.sfP_all h.ok.rp (Nat.le_refl N) (by omega) gx (fun j hj=>absurd hj (by omega));rw [hA] at a5;have a5:=a5 hi
 have hne:Cm.ap y i≠i:=fun e=>by rw [e,Cm.idT_self] at a5; cases a5
 rw [idT_at hne] at a5;exact Option.map_eq_none_iff.1 a5
theorem fnd_tr {es es1:List En} (h:trE es1=trE es) {i p:Nat} (hn:fnd es i p=none):fnd es1 i p=none:=by
 have:=congrFun (congrFun h i) p;unfold trE at this;rw [hn] at this;exact Option.map_eq_none_iff.1 this
theorem Gw.trans_or {F1 M1 F2 M2 P:Nat→Prop} {w1 w2:World} (h:Gw F M w F1 (fun k=>M1 k∨P k) w1) (h':Gw F1 M1 w1 F2 M2 w2):Gw F M w F2 (fun k=>M2 k∨P k) w2:=by
 have hs:=h.kp.size;refine ⟨h.kg.trans h'.kg,Rg.Kp.trans h.kp h'.kp (fun k hk hm=>?_),fun k hk=>?_,fun k hk=>?_⟩
 ·rcases h.nM k (.inl hm) with e | e
  ·exact e
  ·omega
 ·rcases h'.nF k hk with e | e
  ·exact h.nF k e
  ·exact .inr (by omega)
 ·rcases hk with hk | hk
  ·rcases h'.nM k hk with e | e
   ·exact h.nM k (.inl e)
   ·exact .inr (by omega)
  ·exact h.nM k (.inr hk)
theorem Gw.put_or {F1 M1 P P2:Nat→Prop} {w1 w2:World} (h:Gw F M w F1 (fun k=>M1 k∨P k) w1) (hk:Rg.Kp P w1 w2) (hF:∀ k,F1 k→¬ P k) (hP:∀ k,P2 k→P k∨w1.heap.size≤k):Gw F M w F1 (fun k=>M1 k∨P2 k) w2:=by
 have hs:=h.kp.size;refine ⟨h.kg.kf' (hk.weak fun k hp hf=>hF k hf hp),Rg.Kp.trans h.kp hk (fun k hk hp=>?_),h.nF,fun k hk=>?_⟩
 ·rcases h.nM k (.inr hp) with e | e
  ·exact e
  ·omega
 ·rcases hk with hk | hk
  ·exact h.nM k (.inl hk)
  ·rcases hP k hk with e | e
   ·exact h.nM k (.inr e)
   ·exact .inr (by omega)
theorem Gw.less {F1 M1 M2:Nat→Prop} {w1:World} (h:Gw F M w F1 M1 w1) (hM:∀ k,M2 k→M1 k):Gw F M w F1 M2 w1:=⟨h.kg,h.kp,h.nF,fun k hk=>h.nM k (hM k hk)⟩
theorem rdv_of {e:TypeId} {us:List Value} (h:W.ownsRow B e 1 v n us) (hM:∀ k,v.ownBlock=some k→¬ M k):∃ a c,v=.slice a n c∧RdV M W a us:=by
 have hl:us.length=n:=by have:=h.1; omega
 obtain ⟨a,c,hs⟩:=Rg.row_shape h;subst hs;refine ⟨a,c,rfl,fun h0=>?_⟩;obtain ⟨g,c',u,e1,e2,e3,e4⟩:=row_of h (k:=0) (by omega);simp only [Value.slice.injEq,true_and] at e1;obtain ⟨rfl,rfl⟩:=e1;refine ⟨g,0,rfl,e4,hM g rfl,fun i hi=>?_⟩;obtain ⟨g',c',u,e1,e2,e3,e4⟩:=row_of h (k:=i) (by omega);simp only [Value.slice.injEq,Option.some.injEq,Addr.mk.injEq,and_true,true_and] at e1;obtain ⟨rfl,rfl⟩:=e1;rw [e2,← e3,List.getElem?_eq_getElem hi]
abbrev RdF (F:Nat→Prop) (W:World) (ad:Option Addr) (us:List Value):Prop:=RdV (fun z=>¬ F z) W ad us
theorem RdF.kf {ad:Option Addr} {us:List Value} (h:RdF F w ad us) (hk:KF F w w'):RdF F w' ad us:=RdV.kp h hk (fun _ _ e=>e) (fun _ _ e=>e)
theorem RdF.kg {ad:Option Addr} {us:List Value} (h:RdF F w ad us) (hk:KG F w F' w'):RdF F' w' ad us:=RdV.kp h hk.kf (fun _ _ e=>e) (fun k _ e h=>e (hk.sub k h))
theorem RdF.up {ad:Option Addr} {us:List Value} (h:RdF F w ad us) (hb:Below w.heap.size w w'):RdF (Fup F w w') w' ad us:=RdV.kp (N:=fun _=>False) h (Rg.Kp.of_below hb) (fun _ _=>False.elim) (fun k _ e h=>e (.inl h))
def SiQ (B:Nat) (F:Nat→Prop) (tb mb N:Nat) (S:List Stp) (nx:Nat) (es:List En) (sv lv:Value) (U:List En) (A:Nat × List Nat) (w:World) (ed:Ending) (w':World):Prop :=
 ∃ (F':Nat→Prop) (ua:Option Addr) (uc:Nat) (rv:Value) (x y:Int),ed=.returned (.tuple #[.slice ua U.length uc,rv,.agg #[.int .i64 x,.int .i64 y],.bool (decide (A.1<N))])∧(A.1<N→x=((A.1:Nat):Int)∧y=((Cm.ap A.2 A.1:Nat):Int)) ∧
  TbM B F' tb mb N w' S nx es es es sv lv∧(∀ M,Gw F M w F' M w')∧RdF F' w' ua (U.map enP)∧FP F' w' rv A.2
theorem sift_q {tb:Nat} {S:List Stp} {es:List En} {lv:Value} (hp:Tb N gs S T es) (h:TbM B F0 tb mb N w S nx es es es sv lv) (hn1:1≤N) (hn2:N≤64) {x:List Nat} (hx:FP F0 w xv x) (gx:Cm.Gd N x) :
  Calls Tryz.prog 65 #[.pointer (some ⟨tb,0,none⟩),xv] w (SiQ B F0 tb mb N S nx es sv lv (usE es N N x) (Cm.sfP N (Cm.idT N (trE es)) N x) w):=by
 have hM:=h.Mlt;refine (sift_t hp h hn1 hn2 hx gx).mono ?_;rintro e w' ⟨F',uv,rv,x9,y9,rfl,h1,h2,h3,h4,h5,h6,h7⟩;have hlt:∀ k,uv.ownBlock=some k→w.heap.size≤k∧k<w'.heap.size:=fun k e=>World.ownsRow.lt h5 k e;obtain ⟨ua,uc,hs,hr⟩:=rdv_of (M:=fun z=>¬ (fun z=>F' z∨uv.ownBlock=some z) z) h5 (fun k e h=>h (.inr e))
 have hg:∀ M,Gw F0 M w (fun z=>F' z∨uv.ownBlock=some z) M w':=fun M=>by
  have g:=h3 M;refine ⟨⟨fun k hk=>.inl (g.kg.sub k hk),fun k hk=>hk.elim (g.kg.lt k) (fun e=>(hlt k e).2),g.kg.kf⟩,g.kp,fun k hk=>hk.elim (g.nF k) (fun e=>.inr (hlt k e).1),g.nM⟩
 have ht:TbM B (fun z=>F' z∨uv.ownBlock=some z) tb mb N w' S nx es es es sv lv:=h2.mono (fun k=>.inl) (fun k hk=>hk.elim (h2.Flt k) (fun e=>(hlt k e).2)) (fun k hk hm=>hk.elim (fun e=>h2.nF k e hm) (fun e=>by
  have:=(hlt k e).1;have:=hM k hm
  omega))
 have hfp:FP (fun z=>F' z∨uv.ownBlock=some z) w' rv (Cm.sfP N (Cm.idT N (trE es)) N x).2:=h7.mono fun k=>.inl;generalize (fun z=>F' z∨uv.ownBlock=some z)=F2 at *;subst hs;exact ⟨F2,ua,uc,rv,x9,y9,rfl,h1,ht,hg,hr,hfp⟩
theorem RdV.up {ad:Option Addr} {us:List Value} (h:RdV M w ad us) (hb:Below w.heap.size w w'):RdV M w' ad us:=h.below hb
theorem run_sliceN1 (b o m c:Nat) (h:m≤c):∃ ca:Addr,(∀ w:World,(Instr.sliceAt 25 (.slice (some ⟨b,o,none⟩) (m+1) (c+1)) (some (.int .i64 1)) none none).run Tryz.prog w=.ok (.slice (some ca) m c) w)∧(0<m→ca=⟨b,o+1,none⟩):=by
 by_cases e:c=0
 ·refine ⟨⟨b,o,none⟩,fun w=>?_,fun h=>by omega⟩
  obtain rfl:m=0:=by omega
  subst e;simp [Instr.sliceAt,Instr.slice,run_underlying Tryz.underlying25,Instr.sliceBounds,Instr.sliceBound,asIntOf,Addr.add]
 ·refine ⟨⟨b,o+1,none⟩,fun w=>?_,fun _=>rfl⟩
  simp [Instr.sliceAt,Instr.slice,run_underlying Tryz.underlying25,Instr.sliceBounds,Instr.sliceBound,asIntOf,Addr.add,e];intro hh;omega
theorem RwI.split {a:Nat} {l:List Nat} (h:RwI F M W v ((a :: l).map fun k:Nat=>((k:Nat):Int))):∃ g c ca,v=.slice (some ⟨g,0,none⟩) (l.length+1) (c+1)∧W.cell? ⟨g,0+0,none⟩=some (.int .i64 ((a:Nat):Int))∧g<W.heap.size ∧
  (∀ w:World,(Instr.sliceAt 25 (.slice (some ⟨g,0,none⟩) (l.length+1) (c+1)) (some (.int .i64 1)) none none).run Tryz.prog w=.ok (.slice (some ca) l.length c) w)∧RdV M W (some ca) (l.map fun k:Nat=>Value.int .i64 ((k:Nat):Int)):=by
 obtain ⟨B,h0,h1⟩:=h.own
 have hlen:((a :: l).map fun k:Nat=>((k:Nat):Int)).length=l.length+1:=by simp
 rw [hlen] at h1;obtain ⟨g,c0,u,e1,e2,e3,e4⟩:=row_of h1 (k:=0) (by omega)
 have hu:u=.int .i64 ((a:Nat):Int):=by
  rw [List.map_cons,List.map_cons,List.getElem?_cons_zero] at e3;exact (Option.some.inj e3).symm
 have hcap:l.length+1≤c0:=by
  obtain ⟨q1,q2⟩:=h1
  rcases q2 with ⟨q3,_⟩ | ⟨g',cap,cur,q3,_,_,q4,_⟩
  ·rw [q3] at e1; simp at e1
  ·rw [q3] at e1
   simp only [Value.slice.injEq,true_and] at e1;omega
 obtain ⟨c,rfl⟩:∃ c,c0=c+1:=⟨c0 - 1,by omega⟩;obtain ⟨ca,r1,r2⟩:=run_sliceN1 g 0 l.length c (by omega);refine ⟨g,c,ca,e1,by rw [e2,hu],e4,r1,fun hl=>?_⟩;rw [List.length_map] at hl;refine ⟨g,0+1,by rw [r2 hl],e4,(h.off g (by rw [e1]; rfl)).2.1,fun i hi=>?_⟩;rw [List.length_map] at hi;obtain ⟨g',c',u',f1,f2,f3,f4⟩:=row_of h1 (k:=i+1) (by omega);rw [e1] at f1;simp only [Value.slice.injEq,Option.some.injEq,Addr.mk.injEq,and_true,true_and] at f1;obtain ⟨rfl,_⟩:=f1;rw [show 0+1+i=0+(i+1) by omega,f2,← f3,List.map_cons,List.map_cons,List.getElem?_cons_succ,List.getElem?_map,List.getElem?_map,List.getElem_map,List.getElem?_eq_getElem hi];rfl
theorem Pw.fresh (W:World) (x y:Int):∃ W2,(storeVar 106 ⟨W.heap.size,0,none⟩ (.agg #[.int .i64 x,.int .i64 y])).run Tryz.prog (W.alloc (.cells #[.int .i64 0,.int .i64 0] 106))=.ok () W2∧Pw W2 W.heap.size x y∧Below W.heap.size W W2 :=
 ⟨_,(Pw.new W).run x y,(Pw.new W).set x y,(((Below.refl _ _).alloc (Nat.le_refl _) _).setCell (p:=⟨W.heap.size,0,none⟩) (Nat.le_refl _) _).setCell (p:=⟨W.heap.size,1,none⟩) (Nat.le_refl _) _⟩
def InP (B:Nat) (F:Nat→Prop) (tb mb N:Nat) (gs:List (List Nat)) (S:List Stp) (T:List (List Nat)) (es:List En) (sv lv pv:Value) (x:List Nat) (w:World) (ed:Ending) (w':World):Prop :=
 ∃ (F':Nat→Prop) (sv' lv':Value) (S':List Stp) (T':List (List Nat)) (es':List En),ed=.returned (.tuple #[])∧InsR N gs S T es x S' T' es'∧TbM B F' tb mb N w' S' T'.length es' es' es' sv' lv'∧Gw F (fun k=>tbS tb mb es sv lv k∨pv.ownBlock=some k) w F' (tbS tb mb es' sv' lv') w'
theorem insert_t {tb:Nat} {S:List Stp} {es:List En} {lv:Value} (hg:∀ s∈gs,Cm.Gd N s) (hp:Tb N gs S T es) (h:TbM B F0 tb mb N w S T.length es es es sv lv) (hn1:1≤N) (hn2:N≤16) {x:List Nat} (hx:FP F0 w xv x) (hgx:Cm.Gr N (·∈gs) x)
  {parts:List Nat} {pv:Value} (hpr:RwI F0 (tbS tb mb es sv lv) w pv (parts.map fun k:Nat=>((k:Nat):Int))) (hp1:1≤parts.length∧parts.length≤2) (hpa:∀ k∈parts,∃ z,T[k]?=some z) (hpv:pvL T parts=x) (hT:T.length<50000) :
  Calls Tryz.prog 91 #[.pointer (some ⟨tb,0,none⟩),xv,pv] w (InP B F0 tb mb N gs S T es sv lv pv x w):=by
 have gx:=(Cm.Gr.isG hg).gd x hgx;obtain ⟨pa0,pc0,hps⟩:=hpr.shape;subst hps;have HG:=ι hg;have HGX:=ι hgx;have HP:=ι hp;have HPA:=ι hpa;have HPV:=ι hpv;have HTL:=ι hT;have HPL:=ι hp1;have GX:=ι gx;have HFW:=ι hp.few;obtain ⟨A,hA⟩:∃ A,Hid (Cm.sfP N (Cm.idT N (trE es)) N x=A):=⟨_,ι rfl⟩;obtain ⟨U,hU⟩:∃ U,Hid (usE es N N x=U):=⟨_,ι rfl⟩;obtain ⟨ul,hul⟩:∃ n,Hid (U.length=n):=⟨_,ι rfl⟩;obtain ⟨fb,hfb⟩:∃ b,Hid (decide (A.1<N)=b):=⟨_,ι rfl⟩;have HUV:=ι (show A.2=U.foldl (fun y e=>Ma.mulN y (Ma.invN e.x)) x by rw [← hA.out,← hU.out]; exact usE_val (fun e he=>(hp.en e he).gd) (Nat.le_refl _) gx);have HUL:=ι (show U.length≤N by rw [← hU.out]; exact usE_len _ _ _ _);have HUM:=ι (show ∀ e∈U,e∈es from fun e he=>by rw [← hU.out] at he; exact usE_mem he);have K:=ι (Gw.refl (M:=fun k=>tbS tb mb es sv lv k∨(Value.slice pa0 (parts.map fun k:Nat=>((k:Nat):Int)).length pc0).ownBlock=some k) h.Flt)
 have hb:Below w.heap.size w (w.alloc (.cells #[.pointer (some ⟨tb,0,none⟩)] 98)):=(Below.refl _ _).alloc (Nat.le_refl _) _;have TM:=ι (h.up hb);replace K:=ι (K.out.up hb);have RW:=ι (hpr.up hb);have X:=ι (hx.up hb);have C:=ι (show CF (Fup F0 w (w.alloc (.cells #[.pointer (some ⟨tb,0,none⟩)] 98))) (w.alloc (.cells #[.pointer (some ⟨tb,0,none⟩)] 98)) w.heap.size 0 (.pointer (some ⟨tb,0,none⟩)) from ⟨by rw [Rg.cellNew]; rfl,.inr ⟨Nat.le_refl _,by simp⟩,by simp⟩);obtain ⟨tp,htp⟩:∃ b,b=w.heap.size:=⟨_,rfl⟩;clear hg hgx hp hpa hpv hT hp1 gx h hx hpr hb
 go_enter Tryz.func91,Tryz.ntmps91
 go_upto_region 0 with (fail);refine Rg.wl ?_;refine Rg.lr 3 (exec_boxV (v:=.pointer (some ⟨tb,0,none⟩)) _ _ rfl rfl rfl) ?_;go_frame;generalize Fup F0 w (w.alloc (.cells #[.pointer (some ⟨tb,0,none⟩)] 98))=F1 at *;rw [← htp] at C;generalize w.alloc (.cells #[.pointer (some ⟨tb,0,none⟩)] 98)=w0 at *;rw [← htp];clear htp;go_upto_region 1 with (fail);refine Rg.wl ?_;refine Rg.lr 15 (Rg.lo (.pointer (some ⟨tb,0,none⟩)) ⟨tp,0,none⟩ (Rg.run_loadPtr _ _ Tryz.underlying98 C.out.cell)) ?_;go_frame;refine Rg.lm 16 (xv) ?_;go_frame;refine Rg.lk 17 (exec_fn 65 _ _ _ rfl rfl rfl (Dhcl0 _ _)) ?_;refine (sift_q HP.out TM.out hn1 (by omega) X.out GX.out).mono ?_;rintro e1 w1 ⟨F9,ua,uc,rv9,x9,y9,rfl,hxy9,hT9,hgm9,hud9,hr9⟩;rw [hU.out] at hud9 ⊢;rw [hul.out,hA.out];rw [hA.out] at hxy9 hr9;rw [hfb.out];have hg9:=hgm9 (tbS tb mb es sv lv);have hg9x:=hgm9 (fun k=>tbS tb mb es sv lv k∨(Value.slice pa0 (parts.map fun k:Nat=>((k:Nat):Int)).length pc0).ownBlock=some k)
 have nTM:=hT9;have nRW:=RW.out.gw hg9;have nC:=C.out.kg hg9.kg;refine ⟨_,rfl,?_⟩;go_frame;clear X;replace TM:=ι nTM;replace RW:=ι nRW;replace C:=ι nC;replace K:=ι (K.out.trans hg9x);have RV:=ι hr9;have UD:=ι hud9;clear hg9x nTM nRW nC;refine Rg.lm 14 (.tuple #[.slice ua ul uc,rv9,(.agg #[.int .i64 x9,.int .i64 y9]),.bool fb]) ?_;go_frame;refine Rg.lr 18 (Rg.ex (.slice ua ul uc)) ?_;go_frame;refine Rg.lr 19 (Rg.ex (rv9)) ?_;go_frame;refine Rg.lr 20 (Rg.ex ((.agg #[.int .i64 x9,.int .i64 y9]))) ?_;go_frame;refine Rg.lr 21 (Rg.ex (.bool fb)) ?_;go_frame;obtain ⟨W2,hst,hpw,hb9⟩:=Pw.fresh w1 x9 y9;refine Rg.lr 8 (exec_allocP2 rfl) ?_;go_frame;refine Rg.la 6 (.slice ua ul uc) ?_;go_frame;refine Rg.la 7 (rv9) ?_;go_frame;refine Rg.list_skip none rfl rfl (Rg.exec_store _ _ _ rfl _ rfl _ rfl hst) ?_;go_frame;refine Rg.la 9 (.bool fb) ?_;go_frame;have AB0:=ι (show CF (Fup F9 w1 W2) W2 w1.heap.size 0 (.int .i64 x9) from ⟨hpw.c0.c,.inr ⟨Nat.le_refl _,hpw.c0.lt⟩,hpw.c0.lt⟩)
 have AB1:=ι (show CF (Fup F9 w1 W2) W2 w1.heap.size 1 (.int .i64 y9) from ⟨hpw.c1.c,.inr ⟨Nat.le_refl _,hpw.c1.lt⟩,hpw.c1.lt⟩);clear hgm9 hst hpw hr9 hud9;have HXY:=ι hxy9;clear hxy9;obtain ⟨ab,hab⟩:∃ b,b=w1.heap.size:=⟨_,rfl⟩;rw [← hab] at AB0 AB1 ⊢;clear hab;replace TM:=ι (TM.out.up hb9);replace RW:=ι (RW.out.up hb9);replace C:=ι (C.out.up hb9);replace RV:=ι (RV.out.up hb9);replace UD:=ι (UD.out.up hb9);replace K:=ι (K.out.up hb9);generalize Fup F9 w1 W2=F2 at *;clear hb9
 cases fb with
 | false =>
  go_upto_region 2 with (fail);refine Rg.wl ?_;refine Rg.lm 22 (.bool false) ?_;go_frame;refine Rg.lr 23 (exec_not _ _ false rfl rfl) ?_;go_frame;have HNO:=ι (show ¬ (Cm.sfP N (Cm.idT N (trE es)) N x).1<N by rw [hA.out]; exact of_decide_eq_false hfb.out);go_wp2
  first
  | go_end0
  | refine bodyPost_ret (results_none rfl _ _ _) rfl ?_
  exact ⟨_,_,_,_,_,_,rfl,InsR.same HG.out HP.out HGX.out HNO.out,TM.out,K.out.less fun k=>.inl⟩
 | true =>
  have HLT:=ι (of_decide_eq_true hfb.out);have HX9:=ι (HXY.out HLT.out);obtain ⟨i0,hi0⟩:∃ i,Hid (A.1=i):=⟨_,ι rfl⟩;obtain ⟨y0,hy0⟩:∃ y,Hid (A.2=y):=⟨_,ι rfl⟩;have HAI:=ι (show A=(i0,y0) by rw [← hi0.out,← hy0.out]);have HIN:=ι (show i0<N by rw [← hi0.out]; exact HLT.out)
  have hxe:x9=((i0:Nat):Int):=by rw [← hi0.out]; exact HX9.out.1
  have hye:y9=((Cm.ap y0 i0:Nat):Int):=by rw [← hi0.out,← hy0.out]; exact HX9.out.2
  rw [hxe] at AB0;rw [hye] at AB1;rw [hy0.out] at RV
  have GY:=ι (show Cm.Gd N y0 by
   have:=(Cm.sfP_all HP.out.ok.rp (Nat.le_refl N) (by omega) GX.out (fun j hj=>absurd hj (by omega))).2.2.1
   rw [hA.out,HAI.out] at this; exact this)
  have HNF:=ι (show fnd es i0 (Cm.ap y0 i0)=none from usE_fnd HP.out GX.out (by rw [hA.out,HAI.out]) HIN.out);have HYV:=ι (show y0=U.foldl (fun y e=>Ma.mulN y (Ma.invN e.x)) x by rw [← HUV.out,hy0.out]);clear HX9 HXY hxe hye;obtain ⟨q0,hq0⟩:∃ q,Hid (Cm.ap y0 i0=q):=⟨_,ι rfl⟩;rw [hq0.out] at AB1 HNF;have IV:=ι (show IvR N gs S T es parts.length x U 0 S T es parts from ⟨HP.out,List.prefix_rfl,rfl,rfl,Nat.le_refl _,rfl,HPA.out,HPV.out⟩)
  have hul16:ul≤16:=by have:=HUL.out; have:=hul.out; omega
  go_upto_region 2 with (fail);refine Rg.wl ?_;refine Rg.lm 22 (.bool true) ?_;go_frame;refine Rg.lr 23 (exec_not _ _ true rfl rfl) ?_;go_frame;go_upto_region 3 with (fail);refine Rg.wl ?_;refine Rg.lm 24 (.slice ua ul uc) ?_;go_frame;refine Rg.lr 25 (Rg.ln Tryz.underlying102) ?_;go_frame;refine Rg.lm 26 (.int .i64 ((0:Nat):Int)) ?_;go_frame;obtain ⟨rb,ro,rc,hrv⟩:=RV.out.shape' GY.out hn1;subst hrv;clear HAI;go_wp2
  go_loopw [2,26] (fun pvv iv wr=>∃ (k:Nat) (F1:Nat→Prop) (sv1:Value) (S1:List Stp) (T1:List (List Nat)) (es1:List En) (parts1:List Nat),iv=.int .i64 ((k:Nat):Int)∧k≤ul∧Hid (IvR N gs S T es parts.length x U k S1 T1 es1 parts1)∧Hid (TbM B F1 tb mb N wr S1 T1.length es1 es1 es1 sv1 lv) ∧
   Hid (Gw F0 (fun k=>tbS tb mb es sv lv k∨(Value.slice pa0 (parts.map fun k:Nat=>((k:Nat):Int)).length pc0).ownBlock=some k) w F1 (fun k=>tbS tb mb es1 sv1 lv k∨pvv.ownBlock=some k) wr)∧Hid (RwI F1 (tbS tb mb es1 sv1 lv) wr pvv (parts1.map fun k:Nat=>((k:Nat):Int)))∧Hid (CF F1 wr tp 0 (.pointer (some ⟨tb,0,none⟩)))∧Hid (FP F1 wr (.slice (some ⟨rb,ro,none⟩) N rc) y0)∧Hid (RdF F1 wr ua (U.map enP))∧Hid (CF F1 wr ab 0 (.int .i64 ((i0:Nat):Int)))∧Hid (CF F1 wr ab 1 (.int .i64 ((q0:Nat):Int)))) (fun _ iv _=>ul - (intOf iv).toNat)
  case atStart=>exact ⟨0,_,sv,S,T,es,parts,rfl,Nat.zero_le _,IV,TM,K,RW,C,RV,UD,AB0,AB1⟩
  case round =>
   clear IV TM K RW C RV UD AB0 AB1;obtain ⟨k,F1,sv1,S1,T1,es1,parts1,rfl,hk,IV,TM,K,RW,C,RV,UD,AB0,AB1⟩:=hrel;obtain ⟨pa1,pc1,hps⟩:=RW.out.shape;subst hps
   have HT1:=ι (show T1.length≤50020∧S1.length<100000∧parts1.length≤20 by
    have a1:=IV.out.tb.sk.len;have a2:=HP.out.sk.len;have a3:=IV.out.sl;have a4:=IV.out.pl;have a5:=HPL.out;have a6:=HTL.out
    omega)
   by_cases hkl:k<ul
   case pos =>
    have HKL:=ι hkl
    have hkU:k<U.length:=by rw [hul.out]; exact hkl
    obtain ⟨ug,uo,e1,hg,-,hc⟩:=UD.out (by rw [List.length_map]; omega);subst e1;obtain ⟨e,he⟩:∃ e,Hid (U[k]'hkU=e):=⟨_,ι rfl⟩;have hc:=hc k (by rw [List.length_map]; exact hkU);rw [List.getElem_map,he.out] at hc;have CX:=ι (CL.mk hc hg);have HUK:=ι (show U[k]?=some e by rw [List.getElem?_eq_getElem hkU,he.out]);have HEB:=ι (key5_mem IV.out.key (HUM.out e (he.out▸List.getElem_mem hkU)));clear hc hg;go_upto_region 4 with (fail);refine Rg.wl ?_;refine Rg.lr 27 (Rg.bn (.bool true) .lss (h:=b_lss _ Rg.dT)) ?_;go_frame;go_upto_region 5 with (fail);refine Rg.wl ?_;refine Rg.lr 28 (exec_indexS slEnts _ _ rfl ug (uo) (ul) uc (k) rfl rfl HKL.out) ?_;go_frame;refine Rg.lr 29 (Rg.lo (.pointer (some ⟨e.b,0,none⟩)) ⟨ug,uo+k,none⟩ (Rg.run_loadPtr _ _ Tryz.underlying110 CX.out.cell)) ?_;go_frame;refine Rg.la 11 (.pointer (some ⟨e.b,0,none⟩)) ?_;go_frame;go_upto_region 6 with (fail)
    refine Rg.wl ?_;refine Rg.lm 30 (.slice pa1 (parts1.map fun k:Nat=>((k:Nat):Int)).length pc1) ?_;go_frame;refine Rg.lr 31 (Rg.lo (.pointer (some ⟨tb,0,none⟩)) ⟨tp,0,none⟩ (Rg.run_loadPtr _ _ Tryz.underlying98 C.out.cell)) ?_;go_frame;refine Rg.lm 32 (.pointer (some ⟨e.b,0,none⟩)) ?_;go_frame;refine Rg.lk 33 (exec_fn 113 _ _ _ rfl rfl rfl (Dhcl1 _ _)) ?_;refine (inverse_any IV.out.tb TM.out HEB.out (by have:=HT1.out; omega)).mono ?_;rintro e1 w32 ⟨F9,sv9,S9,T9,es9,j9,rfl,hj9,hpre9,hsl9,htb9,htr9,hk9,hT9,hg9⟩;replace IV:=ι (IV.out.step HPL.out.1 HUK.out hj9 hpre9 hsl9 htb9 htr9 hk9);have hg9x:=hg9;have nTM:=hT9;have nRW:=RW.out.gw hg9;have nC:=C.out.kg hg9.kg;have nRV:=RV.out.kg hg9.kg;have nUD:=RdF.kg UD.out hg9.kg;have nAB0:=AB0.out.kg hg9.kg;have nAB1:=AB1.out.kg hg9.kg;refine ⟨_,rfl,?_⟩;go_frame;replace TM:=ι nTM;replace RW:=ι nRW
    replace C:=ι nC;replace RV:=ι nRV;replace UD:=ι nUD;replace AB0:=ι nAB0;replace AB1:=ι nAB1;replace K:=ι (K.out.trans_or hg9x);clear hg9x nTM nRW nC nRV nUD nAB0 nAB1;obtain ⟨a8,c8,X8,r8,hR8,hk8,ho8⟩:=RW.out.push TM.out.Flt TM.out.Mlt ((j9:Nat):Int) (by rw [List.length_map]; have:=HT1.out; omega) 25;refine Rg.lr 34 (Rg.exec_buildSlice _ _ _ rfl (.int .i64 ((j9:Nat):Int)) rfl (run_build1N w32 _)) ?_;go_frame;refine Rg.lr 35 (Rg.exec_append _ _ _ rfl rfl rfl r8) ?_;go_frame;refine Rg.lr 2 (Rg.exec_assign (v:=.slice a8 ((parts1.map fun k:Nat=>((k:Nat):Int)).length+1) c8) _ rfl rfl) ?_;go_frame;have hF8:∀ z,F9 z→¬ (Value.slice pa1 (parts1.map fun k:Nat=>((k:Nat):Int)).length pc1).ownBlock=some z:=fun z h1 h2=>(RW.out.off z h2).1 h1;have hM8:∀ z,(Value.slice pa1 (parts1.map fun k:Nat=>((k:Nat):Int)).length pc1).ownBlock=some z→¬ tbS tb mb es9 sv9 lv z:=fun z h1=>(RW.out.off z h1).2.1
    have hkf8:KF F9 _ X8:=hk8.weak fun z h1 h2=>hF8 z h2 h1;replace TM:=ι (TM.out.kp hk8 hM8 hF8);replace K:=ι (K.out.put_or hk8 hF8 ho8);replace C:=ι (C.out.kf hkf8);replace RV:=ι (FP.kf RV.out hkf8);replace UD:=ι (RdF.kf UD.out hkf8);replace AB0:=ι (AB0.out.kf hkf8);replace AB1:=ι (AB1.out.kf hkf8)
    have hcast:(parts1.map fun k:Nat=>((k:Nat):Int))++[((j9:Nat):Int)]=(parts1++[j9]).map fun k:Nat=>((k:Nat):Int):=by rw [List.map_append]; rfl
    rw [hcast] at hR8;replace RW:=ι hR8;clear hk8 hF8 hM8 hkf8 hcast ho8 r8 CX HUK HEB;go_upto_region 7 with (fail);refine Rg.wl ?_;refine Rg.lr 36 (Rg.bn (.int .i64 (((k+1):Nat):Int)) .add (h:=b_add _ (by omega) (by omega))) ?_;go_frame;refine Rg.lm 26 (.int .i64 (((k+1):Nat):Int)) ?_;go_frame;go_wp2
    go_roundw
    case rel=>exact ⟨k+1,_,_,_,_,_,_,by go_num,HKL.out,IV,TM,K,RW,C,RV,UD,AB0,AB1⟩
    case measure=>simp [intOf]; have:=HKL.out; omega
   case neg =>
    have hke:k=ul:=by omega
    subst hke;have IVF:=ι (show IvR N gs S T es parts.length x U U.length S1 T1 es1 parts1 by rw [hul.out]; exact IV.out);have HYP:=ι (show pvL T1 parts1=y0 by rw [IVF.out.pv,List.take_of_length_le (Nat.le_refl _)]; exact HYV.out.symm);have HPA1:=ι IV.out.pa
    have hpl1:1≤parts1.length:=by have:=IV.out.pl; have:=HPL.out; omega
    obtain ⟨a1,l1,hp1⟩:∃ a l,parts1=a :: l:=by
     cases parts1 with
     | nil=>simp at hpl1
     | cons a l=>exact ⟨a,l,rfl⟩
    subst hp1;obtain ⟨pg,pc,ca,e1,hcell,hglt,hsl,hrd⟩:=RW.out.split
    have hlen:((a1 :: l1).map fun k:Nat=>((k:Nat):Int)).length=l1.length+1:=by simp
    rw [hlen] at e1 K ⊢;simp only [Value.slice.injEq,true_and] at e1;obtain ⟨rfl,rfl⟩:=e1;have RP:=ι hrd;have CP:=ι (CL.mk hcell hglt);have HSL:=ι hsl;obtain ⟨z1,hz1⟩:=HPA1.out a1 (List.mem_cons_self ..);have HZ1:=ι hz1;have HLN:=ι (show T1.length+l1.length<100000 by have:=HT1.out; simp at this; omega)
    have HYZ:=ι (show l1.foldl (fun y k=>Ma.mulN y (T1.getD k [])) z1=y0 by
     rw [← HYP.out];show _=l1.foldl _ (T1.getD a1 [])
     rw [List.getD_eq_getElem?_getD,hz1]; rfl)
    have HNF1:=ι (fnd_tr IV.out.tr HNF.out);clear hcell hglt hsl hrd hz1 hlen RW UD hpl1;go_upto_region 4 with (fail);refine Rg.wl ?_;refine Rg.lr 27 (Rg.bn (.bool false) .lss (h:=b_lss _ Rg.dF)) ?_;go_frame;have HCP:=ι ((show Below wr.heap.size wr wr.drew from (Below.refl _ _).drew).cell (p:=⟨pg,0+0,none⟩) CP.out.lt);go_upto_region 8 with (fail);have hV0:Below wr.heap.size wr wr.drew:=(Below.refl _ _).drew;replace TM:=ι (TM.out.up hV0);replace C:=ι (C.out.up hV0);replace RV:=ι (RV.out.up hV0);replace AB0:=ι (AB0.out.up hV0);replace AB1:=ι (AB1.out.up hV0);replace RP:=ι (RP.out.up hV0);replace K:=ι (K.out.up hV0);generalize Fup F1 wr wr.drew=F1 at *;clear hV0;refine Rg.Any.begin (S:=Rg.Both 6 (fun W:World=>W.cell? ⟨pg,0+0,none⟩=some (.int .i64 ((a1:Nat):Int))) (fun _=>True)) mix ?_;generalize wr.drew=w53 at *;have hS:∀ (l:Array Bool) W,(fun W:World=>W.cell? ⟨pg,0+0,none⟩=some (.int .i64 ((a1:Nat):Int))) W→Rg.Both 6 (fun W:World=>W.cell? ⟨pg,0+0,none⟩=some (.int .i64 ((a1:Nat):Int))) (fun _=>True) l W:=fun l W h=>⟨.inr h,trivial⟩
    have hS2:∀ (l:Array Bool) W,l.getD 6 false=true→Rg.Both 6 (fun W:World=>W.cell? ⟨pg,0+0,none⟩=some (.int .i64 ((a1:Nat):Int))) (fun _=>True) l W:=fun l W h=>⟨.inl h,trivial⟩;have hI:(fun W:World=>W.cell? ⟨pg,0+0,none⟩=some (.int .i64 ((a1:Nat):Int))) w53:=HCP.out.trans CP.out.cell;refine Rg.tm 0 6 (.slice (some ⟨pg,0,none⟩) (l1.length+1) (pc+1)) 37 (hS _ _ hI) ?_;go_frame;refine Rg.tg 1 6 ((.slice (some ca) l1.length pc)) 38 rfl rfl (.inl ⟨rfl,fun w _=>exec_slice1I (v:=.slice (some ⟨pg,0,none⟩) (l1.length+1) (pc+1)) _ rfl rfl (HSL.out _)⟩) (hS _ _ hI) ?_;go_frame;refine Rg.tm 2 6 (.slice (some ⟨pg,0,none⟩) (l1.length+1) (pc+1)) 39 (hS _ _ hI) ?_;go_frame;refine Rg.tg 3 6 (.pointer (some ⟨pg,0+0,none⟩)) 40 rfl rfl (Rg.yields_index slInts _ _ rfl rfl pg (0) ((l1.length+1)) (pc+1) (0) rfl rfl (by omega)) (hS _ _ hI) ?_;go_frame
    refine Rg.tT 4 6 (.int .i64 ((a1:Nat):Int)) 41 rfl rfl (Rg.yc ⟨pg,0+0,none⟩ (fun W hW=>run_loadInt hW)) (hS _ _ hI) ?_;go_frame;refine Rg.tg 5 6 ((.func (.func 115) #[] #[.pointer (some ⟨tp,0,none⟩)])) 42 rfl rfl (.inl ⟨rfl,fun w _=>exec_makeFunc 115 _ rfl rfl⟩) (hS _ _ hI) ?_;go_frame;refine Rg.Any.one (i:=6) (by kernel_rfl) (Rg.Any.ask (some 43) rfl rfl rfl _ _ (exec_fn3 114 _ _ _ _ rfl rfl rfl rfl (Dhcl2 _ _)) ?_);refine (foldTI_any (y0:=z1) IV.out.tb.sk TM.out C.out (fun k hk=>HPA1.out k (List.mem_cons_of_mem _ hk)) HZ1.out RP.out HLN.out).mono ?_;rintro e1 w54 ⟨F9,sv9,S9,T9,a9,rfl,ha9,hpre9,hsl9,hmk9,hae9,hT9,hg9⟩;rw [HYZ.out] at ha9;have HIR:=ι (fun b=>IVF.out.put HG.out HUL.out HPL.out.2 HGX.out (show Cm.sfP N (Cm.idT N (trE es)) N x=(i0,y0) by rw [hA.out,← hi0.out,← hy0.out]) HIN.out rfl hsl9 hmk9 hpre9 ha9 b);have hg9x:=hg9;have nTM:=hT9
    have nC:=C.out.kg hg9.kg;have nRV:=RV.out.kg hg9.kg;have nAB0:=AB0.out.kg hg9.kg;have nAB1:=AB1.out.kg hg9.kg;have hI2_k:=trivial;clear hI;refine ⟨_,rfl,(hS2 _ _ rfl),?_⟩;go_frame;clear RP;replace TM:=ι nTM;replace C:=ι nC;replace RV:=ι nRV;replace AB0:=ι nAB0;replace AB1:=ι nAB1;replace K:=ι (K.out.trans_or hg9x);clear hg9x nTM nC nRV nAB0 nAB1;refine Rg.tg 7 6 (.int .i64 ((a9:Nat):Int)) 12 rfl rfl (.inl ⟨rfl,fun w _=>Rg.exec_assign (v:=.int .i64 ((a9:Nat):Int)) _ rfl rfl⟩) (hS2 _ _ rfl) ?_;go_frame;refine Rg.Any.done (by kernel_rfl) ?_ _;clear hS2;clear hS hI2_k;have HES:=ι (show es1.length≤1000 by have:=IV.out.tb.few; have h9:N*N≤16*16:=Nat.mul_le_mul hn2 hn2; omega);clear ha9 hpre9 hsl9 hmk9 hae9;go_upto_region 9 with (fail);refine Rg.wl ?_;refine Rg.lm 44 (.slice (some ⟨rb,ro,none⟩) N rc) ?_;go_frame;refine Rg.lm 45 (.slice (some ⟨rb,ro,none⟩) N rc) ?_;go_frame
    refine Rg.lk 46 (exec_fn1 45 _ _ rfl rfl (Bhcl0 _ _)) ?_;refine (fcInv_f RV.out GY.out hn1 (by omega)).mono ?_;rintro e1 w55 ⟨iv,rfl,hiv,hb⟩;obtain ⟨ib,io,ic,rfl⟩:=hiv.shape' (Cm.gd_inv GY.out) hn1;refine ⟨_,rfl,?_⟩;go_frame;replace TM:=ι (TM.out.up hb);replace C:=ι (C.out.up hb);replace RV:=ι (RV.out.up hb);replace AB0:=ι (AB0.out.up hb);replace AB1:=ι (AB1.out.up hb);replace K:=ι (K.out.up hb);have IV9:=ι hiv;generalize Fup F9 w54 w55=F2 at *;clear hb;refine Rg.lm 47 (.int .i64 ((a9:Nat):Int)) ?_;go_frame;refine Rg.lr 48 (exec_buildEn _ _ _ _ rfl rfl rfl rfl rfl) ?_;go_frame;obtain ⟨hT8,hq8⟩:=TM.out.box RV.out IV9.out i0 q0 a9 113;have hb8:Below w55.heap.size w55 (w55.alloc (.cells #[.slice (some ⟨rb,ro,none⟩) N rc,.slice (some ⟨ib,io,none⟩) N ic,.int .i64 ((a9:Nat):Int),.int .i64 (-1)] 113)):=(Below.refl _ _).alloc (Nat.le_refl _) _;obtain ⟨eb,heb⟩:∃ b,b=w55.heap.size:=⟨_,rfl⟩
    refine Rg.lr 49 (Rg.exec_box _ _ rfl rfl) ?_;go_frame;rw [← heb] at hT8 hq8 ⊢;refine Rg.la 13 (.pointer (some ⟨eb,0,none⟩)) ?_;go_frame;replace K:=ι (K.out.trans_or (TM.out.gw (Rg.Kp.of_below hb8) (fun q hq=>by rw [← heb]; exact hq8 q hq)));replace TM:=ι hT8;replace C:=ι (C.out.kf (KF.of_below hb8));replace AB0:=ι (AB0.out.kf (KF.of_below hb8));replace AB1:=ι (AB1.out.kf (KF.of_below hb8));clear hT8 hq8 hb8 RV IV9 heb;generalize w55.alloc (.cells #[.slice (some ⟨rb,ro,none⟩) N rc,.slice (some ⟨ib,io,none⟩) N ic,.int .i64 ((a9:Nat):Int),.int .i64 (-1)] 113)=W7 at *;have HIRb:=ι (HIR.out eb);rw [hq0.out] at HIRb;clear HIR;obtain ⟨e0,he0⟩:∃ e:En,Hid (⟨eb,i0,q0,y0,a9,-1⟩=e):=⟨_,ι rfl⟩;rw [he0.out] at HIRb TM K;have HP0:=ι (show enP e0=.pointer (some ⟨eb,0,none⟩) by rw [← he0.out]);have HK0:=ι (show Jm.keyV (e0.i,e0.p)=.agg #[.int .i64 ((i0:Nat):Int),.int .i64 ((q0:Nat):Int)] by rw [← he0.out]; rfl)
    have HN0:=ι (show fnd es1 e0.i e0.p=none by rw [← he0.out]; exact HNF1.out);go_upto_region 10 with (fail);have hV0:Below W7.heap.size W7 W7.drew:=(Below.refl _ _).drew;replace TM:=ι (TM.out.up hV0);replace C:=ι (C.out.up hV0);replace AB0:=ι (AB0.out.up hV0);replace AB1:=ι (AB1.out.up hV0);replace K:=ι (K.out.up hV0);generalize Fup F2 W7 W7.drew=F3 at *;clear hV0;refine Rg.Any.begin (S:=Rg.Both 6 (fun W:World=>W.cell? ⟨tp,0,none⟩=some (.pointer (some ⟨tb,0,none⟩))∧W.cell? ⟨tb,3,none⟩=some (.map (some mb))∧W.cell? ⟨ab,0,none⟩=some (.int .i64 ((i0:Nat):Int))∧W.cell? ⟨ab,1,none⟩=some (.int .i64 ((q0:Nat):Int))) (fun _=>True)) mix ?_;generalize W7.drew=w56 at *;have hS:∀ (l:Array Bool) W,(fun W:World=>W.cell? ⟨tp,0,none⟩=some (.pointer (some ⟨tb,0,none⟩))∧W.cell? ⟨tb,3,none⟩=some (.map (some mb))∧W.cell? ⟨ab,0,none⟩=some (.int .i64 ((i0:Nat):Int))∧W.cell? ⟨ab,1,none⟩=some (.int .i64 ((q0:Nat):Int))) W→Rg.Both 6 (fun W:World=>W.cell? ⟨tp,0,none⟩=some (.pointer (some ⟨tb,0,none⟩))∧W.cell? ⟨tb,3,none⟩=some (.map (some mb))∧W.cell? ⟨ab,0,none⟩=some (.int .i64 ((i0:Nat):Int))∧W.cell? ⟨ab,1,none⟩=some (.int .i64 ((q0:Nat):Int))) (fun _=>True) l W:=fun l W h=>⟨.inr h,trivial⟩
    have hS2:∀ (l:Array Bool) W,l.getD 6 false=true→Rg.Both 6 (fun W:World=>W.cell? ⟨tp,0,none⟩=some (.pointer (some ⟨tb,0,none⟩))∧W.cell? ⟨tb,3,none⟩=some (.map (some mb))∧W.cell? ⟨ab,0,none⟩=some (.int .i64 ((i0:Nat):Int))∧W.cell? ⟨ab,1,none⟩=some (.int .i64 ((q0:Nat):Int))) (fun _=>True) l W:=fun l W h=>⟨.inl h,trivial⟩;have hI:(fun W:World=>W.cell? ⟨tp,0,none⟩=some (.pointer (some ⟨tb,0,none⟩))∧W.cell? ⟨tb,3,none⟩=some (.map (some mb))∧W.cell? ⟨ab,0,none⟩=some (.int .i64 ((i0:Nat):Int))∧W.cell? ⟨ab,1,none⟩=some (.int .i64 ((q0:Nat):Int))) w56:=⟨C.out.cell,TM.out.h3.c,AB0.out.cell,AB1.out.cell⟩;refine Rg.tT 0 6 (.pointer (some ⟨tb,0,none⟩)) 50 rfl rfl (Rg.yc ⟨tp,0,none⟩ (fun W hW=>Rg.run_loadPtr _ _ Tryz.underlying98 hW.1)) (hS _ _ hI) ?_;go_frame;refine Rg.tg 1 6 (.pointer (some ⟨tb,0,none⟩)) 51 rfl rfl (.inl ⟨rfl,fun w _=>exec_nil _ rfl rfl⟩) (hS _ _ hI) ?_;go_frame
    refine Rg.tg 2 6 (.pointer (some ⟨tb,3,none⟩)) 52 rfl rfl (.inl ⟨rfl,fun w _=>exec_field _ rfl rfl (tblF2 _ _)⟩) (hS _ _ hI) ?_;go_frame;refine Rg.tT 3 6 ((.map (some mb))) 53 rfl rfl (Rg.yc ⟨tb,3,none⟩ (fun W hW=>run_loadME hW.2.1)) (hS _ _ hI) ?_;go_frame;refine Rg.tT 4 6 ((.agg #[.int .i64 ((i0:Nat):Int),.int .i64 ((q0:Nat):Int)])) 54 rfl rfl (Rg.yc ⟨ab,0,none⟩ (fun W hW=>run_loadP2 hW.2.2.1 hW.2.2.2)) (hS _ _ hI) ?_;go_frame;refine Rg.tm 5 6 (.pointer (some ⟨eb,0,none⟩)) 55 (hS _ _ hI) ?_;go_frame;obtain ⟨X8,hr8,hT8,hk8⟩:=TM.out.put HN0.out;rw [HK0.out,HP0.out] at hr8;refine Rg.Any.one (i:=6) (by kernel_rfl) (Rg.Any.runSkip none rfl rfl rfl (Rg.exec_mapUpdate _ _ _ _ rfl _ _ _ rfl rfl rfl hr8) (hS2 _ _ rfl) ?_);go_frame;refine Rg.Any.done (by kernel_rfl) ?_ _;clear hS2;clear hS hI;have hkf8:=hk8.weak (M':=fun k=>¬ _) fun k h1 h2=>TM.out.nF k h2 h1
    replace K:=ι (K.out.trans_or (TM.out.gw hk8 (fun _=>.inl)));replace TM:=ι hT8;replace C:=ι (C.out.kf hkf8);clear hT8 hk8 hkf8 hr8 AB0 AB1;go_upto_region 11 with (fail);have hV0:Below X8.heap.size X8 X8.drew:=(Below.refl _ _).drew;replace TM:=ι (TM.out.up hV0);replace C:=ι (C.out.up hV0);replace K:=ι (K.out.up hV0);generalize Fup F3 X8 X8.drew=F4 at *;clear hV0;refine Rg.Any.begin (S:=Rg.Both 8 (fun W:World=>W.cell? ⟨tp,0,none⟩=some (.pointer (some ⟨tb,0,none⟩))∧W.cell? ⟨tb,4,none⟩=some lv) (fun _=>True)) mix ?_;generalize X8.drew=w67 at *;have hS:∀ (l:Array Bool) W,(fun W:World=>W.cell? ⟨tp,0,none⟩=some (.pointer (some ⟨tb,0,none⟩))∧W.cell? ⟨tb,4,none⟩=some lv) W→Rg.Both 8 (fun W:World=>W.cell? ⟨tp,0,none⟩=some (.pointer (some ⟨tb,0,none⟩))∧W.cell? ⟨tb,4,none⟩=some lv) (fun _=>True) l W:=fun l W h=>⟨.inr h,trivial⟩
    have hS2:∀ (l:Array Bool) W,l.getD 8 false=true→Rg.Both 8 (fun W:World=>W.cell? ⟨tp,0,none⟩=some (.pointer (some ⟨tb,0,none⟩))∧W.cell? ⟨tb,4,none⟩=some lv) (fun _=>True) l W:=fun l W h=>⟨.inl h,trivial⟩;have hI:(fun W:World=>W.cell? ⟨tp,0,none⟩=some (.pointer (some ⟨tb,0,none⟩))∧W.cell? ⟨tb,4,none⟩=some lv) w67:=⟨C.out.cell,TM.out.h4.c⟩;refine Rg.tT 0 8 (.pointer (some ⟨tb,0,none⟩)) 56 rfl rfl (Rg.yc ⟨tp,0,none⟩ (fun W hW=>Rg.run_loadPtr _ _ Tryz.underlying98 hW.1)) (hS _ _ hI) ?_;go_frame;refine Rg.tT 1 8 (.pointer (some ⟨tb,0,none⟩)) 57 rfl rfl (Rg.yc ⟨tp,0,none⟩ (fun W hW=>Rg.run_loadPtr _ _ Tryz.underlying98 hW.1)) (hS _ _ hI) ?_;go_frame;refine Rg.tg 2 8 (.pointer (some ⟨tb,0,none⟩)) 58 rfl rfl (.inl ⟨rfl,fun w _=>exec_nil _ rfl rfl⟩) (hS _ _ hI) ?_;go_frame;refine Rg.tg 3 8 (.pointer (some ⟨tb,4,none⟩)) 59 rfl rfl (.inl ⟨rfl,fun w _=>exec_field _ rfl rfl (tblF3 _ _)⟩) (hS _ _ hI) ?_;go_frame
    refine Rg.tT 4 8 (lv) 60 rfl rfl (Rg.yc ⟨tb,4,none⟩ (fun W hW=>Rg.run_loadSl _ _ Tryz.underlying102 hW.2)) (hS _ _ hI) ?_;go_frame;refine Rg.tm 5 8 (.pointer (some ⟨eb,0,none⟩)) 61 (hS _ _ hI) ?_;go_frame;obtain ⟨a7,c7,X7,r7,hc7,hk7,hT7,hkp7,hst7⟩:=TM.out.list e0 (by have:=HES.out; omega) 102;rw [HP0.out] at r7;have hba:Below w67.heap.size w67 (w67.alloc (.cells #[.pointer (some ⟨eb,0,none⟩)] 110)):=(Below.refl _ _).alloc (Nat.le_refl _) _;have hq7:lv.ownBlock≠some tp:=fun e=>TM.out.nF tp C.out.inF (.inr (.inr (.inr (.inl e))));have hI3_m:=(show (fun W:World=>W.cell? ⟨tp,0,none⟩=some (.pointer (some ⟨tb,0,none⟩))∧W.cell? ⟨tb,4,none⟩=some lv) (w67.alloc (.cells #[.pointer (some ⟨eb,0,none⟩)] 110)) from ⟨(hba.cell (p:=⟨tp,0,none⟩) C.out.lt).trans C.out.cell,(hba.cell (p:=⟨tb,4,none⟩) TM.out.h4.lt).trans TM.out.h4.c⟩);refine Rg.aR 6 62 rfl rfl (Rg.exec_buildSlice _ _ _ rfl (.pointer (some ⟨eb,0,none⟩)) rfl (run_build1E w67 _)) (hS _ _ hI3_m) ?_;go_frame
    have hI4_m:=(show (fun W:World=>W.cell? ⟨tp,0,none⟩=some (.pointer (some ⟨tb,0,none⟩))∧W.cell? ⟨tb,4,none⟩=some lv) X7 from ⟨(World.cell?_of_block (a:=⟨tp,0,none⟩) (hk7.block tp C.out.lt hq7)).trans C.out.cell,hc7.c⟩);refine Rg.aR 7 63 rfl rfl (Rg.exec_append _ _ _ rfl rfl rfl r7) (hS _ _ hI4_m) ?_;go_frame;refine Rg.aR 8 64 rfl rfl (exec_nil _ rfl rfl) (hS2 _ _ rfl) ?_;go_frame;refine Rg.tg 9 8 (.pointer (some ⟨tb,4,none⟩)) 65 rfl rfl (.inl ⟨rfl,fun w _=>exec_field _ rfl rfl (tblF3 _ _)⟩) (hS2 _ _ rfl) ?_;go_frame;refine Rg.Any.one (i:=10) (by kernel_rfl) (Rg.Any.runSkip none rfl rfl rfl (Rg.exec_store _ _ _ rfl _ rfl _ rfl (Rg.run_storeSl _ infoEntsV hc7.c hc7.f)) (hS2 _ _ rfl) ?_);go_frame;refine Rg.Any.done (by kernel_rfl) ?_ _;clear hS2;clear hS hI4_m;replace K:=ι (K.out.trans_or (TM.out.gw hkp7 hst7));replace TM:=ι hT7;clear hT7 hkp7 hst7 hk7 hc7 r7
    generalize X7.setCell ⟨tb,4,none⟩ (.slice a7 (es1.length+1) c7)=W5 at *;go_wp2
    first
    | go_end0
    | refine bodyPost_ret (results_none rfl _ _ _) rfl ?_
    have h9:=K.out.less (M2:=tbS tb mb (es1++[e0]) sv9 (Value.slice a7 (es1.length+1) c7)) fun k=>.inl;rw [List.length_map] at h9;exact ⟨_,_,_,_,_,_,rfl,HIRb.out,TM.out,h9⟩
end Go.Proofs.YtdnmmibchbceeaaGreat

namespace Go.Proofs.Rg
open Go Go.RowKit
variable {P:Program} {md:Region.Mode} {ops:Array Oper} {Q:Exit→Act→World→Prop}
def Tw (t:Nat) (T:World→Prop) (u:Nat) (U:World→Prop) (l:Array Bool) (w:World):Prop:=Till t T l w∧Till u U l w
theorem Tw.set {t u i:Nat} {T U:World→Prop} (hti:t≠i) (hui:u≠i) (l:Array Bool) (w:World):Tw t T u U (l.setIfInBounds i true) w↔Tw t T u U l w:=by
 unfold Tw; rw [Till.set hti,Till.set hui]
theorem Any.takeA {i t u:Nat} {oi:Oper} {T U:World→Prop} {l:Array Bool} {a:Act} (d:Option Tmp) (hi:ops[i]?=some oi) (hd:oi.dst=d)
  (hs:Region.noSelect ops=true) (hf:Region.free md ops l i=true) (hr:(Region.ready md ops l).contains i=true)
  (hQ:∀ c a w,Q (.panic c) (a.put d v) w→Q (.panic c) a w) (hti:(t == i)=false) (hui:(u == i)=false) (hw:Region.waitsFor md ops t i=true) (hl:l.getD t false=false)
  (hy:YieldsIf P ops T oi v a) (hS:Tw t T u U l w)
  (h:Any P md ops Q (Tw t T u U) n (l.setIfInBounds i true) (a.put d v) w):Any P md ops Q (Tw t T u U) (n+1) l a w:=by
 subst hd;obtain ⟨ot,ht,hw⟩:=Region.waitsFor_spec hw
 have hti':t≠i:=by simpa using hti
 have hui':u≠i:=by simpa using hui
 refine Any.firstG hi (Region.noSelect_spec hs) hQ hti' ht hw (Tw.set hti' hui') (fun l w hl hh=>?_) n l a w hl (Region.free_spec hi hf) (by simpa using hr) hy hS h
 rcases hh.1 with h1 | h1
 ·rw [hl] at h1; cases h1
 ·exact h1
theorem Any.takeB {i t u:Nat} {oi:Oper} {T U:World→Prop} {l:Array Bool} {a:Act} (d:Option Tmp) (hi:ops[i]?=some oi) (hd:oi.dst=d)
  (hs:Region.noSelect ops=true) (hf:Region.free md ops l i=true) (hr:(Region.ready md ops l).contains i=true)
  (hQ:∀ c a w,Q (.panic c) (a.put d v) w→Q (.panic c) a w) (hti:(t == i)=false) (hui:(u == i)=false) (hw:Region.waitsFor md ops u i=true) (hl:l.getD u false=false)
  (hy:YieldsIf P ops U oi v a) (hS:Tw t T u U l w)
  (h:Any P md ops Q (Tw t T u U) n (l.setIfInBounds i true) (a.put d v) w):Any P md ops Q (Tw t T u U) (n+1) l a w:=by
 subst hd;obtain ⟨ou,ht,hw⟩:=Region.waitsFor_spec hw
 have hti':t≠i:=by simpa using hti
 have hui':u≠i:=by simpa using hui
 refine Any.firstG hi (Region.noSelect_spec hs) hQ hui' ht hw (Tw.set hti' hui') (fun l w hl hh=>?_) n l a w hl (Region.free_spec hi hf) (by simpa using hr) hy hS h
 rcases hh.2 with h1 | h1
 ·rw [hl] at h1; cases h1
 ·exact h1
theorem Any.takeP {i t u:Nat} {oi:Oper} {T U:World→Prop} {l:Array Bool} {a:Act} (d:Option Tmp) (hi:ops[i]?=some oi) (hd:oi.dst=d)
  (hs:Region.noSelect ops=true) (hf:Region.free md ops l i=true) (hr:(Region.ready md ops l).contains i=true)
  (hQ:∀ c a w,Q (.panic c) (a.put d v) w→Q (.panic c) a w) (hti:(t == i)=false) (hui:(u == i)=false)
  (hy:YieldsIf P ops (fun _=>True) oi v a) (hS:Tw t T u U l w)
  (h:Any P md ops Q (Tw t T u U) n (l.setIfInBounds i true) (a.put d v) w):Any P md ops Q (Tw t T u U) (n+1) l a w:=by
 subst hd;exact Any.firstH hi (Region.noSelect_spec hs) hQ (Tw.set (by simpa using hti) (by simpa using hui)) (fun l w hh=>trivial) n l a w (Region.free_spec hi hf) (by simpa using hr) hy hS h
end Go.Proofs.Rg

namespace Go.Proofs.YtdnmmibchbceeaaGreat
open Go.RowKit
open Go.Proofs
open Go.Proofs.Ob
attribute [local irreducible] Go.Calls Go.wpList
theorem Dicl0 (args:Array Value) (w:World):(callFunc 91 args).run Tryz.prog w=.ok (.enter 91 args) w:=by kernel_rfl
section
variable {md:Region.Mode} {ops:Array Oper} {Q:Exit→Act→World→Prop} {S:Array Bool→World→Prop}
theorem duo2 {i di dj:Nat} {I:World→Prop} {R1 R2:Value→World→Prop} {R:Value→Value→World→Prop} {l:Array Bool} {a:Act} (hS:∀ l W,I W→S l W) (ij:i≠j) (dij:di≠dj)
  (r0:Region.ready md ops l=[i,j]) (ri:Region.ready md ops (l.setIfInBounds i true)=[j]) (rj:Region.ready md ops (l.setIfInBounds j true)=[i])
  (h1:Rg.Does Tryz.prog ops Q i di I R1 (fun _ _=>True) a w) (h1':∀ u W,I W→R1 u W→Rg.Does Tryz.prog ops Q j dj I (fun v W'=>R u v W') (fun _ _=>True) (a.put (some di) u) W)
  (h2:Rg.Does Tryz.prog ops Q j dj I R2 (fun _ _=>True) a w) (h2':∀ v W,I W→R2 v W→Rg.Does Tryz.prog ops Q i di I (fun u W'=>R u v W') (fun _ _=>True) (a.put (some dj) v) W)
  (h:∀ W u v,I W→R u v W→Rg.Any Tryz.prog md ops Q S n ((l.setIfInBounds i true).setIfInBounds j true) ((a.put (some di) u).put (some dj) v) W) :
  Rg.Any Tryz.prog md ops Q S (n+2) l a w:=by
 refine Rg.Any.two r0 ?_ ?_
 ·refine wpOp_mono ?_ h1
  rintro c W ⟨u,rfl,g1,g2,-⟩;refine ⟨hS _ _ g1,Rg.Any.one ri ?_⟩;refine wpOp_mono ?_ (h1' u W g1 g2);rintro c W' ⟨v,rfl,e1,e2,-⟩;exact ⟨hS _ _ e1,h _ _ _ e1 e2⟩
 ·refine wpOp_mono ?_ h2
  rintro c W ⟨v,rfl,g1,g2,-⟩;refine ⟨hS _ _ g1,Rg.Any.one rj ?_⟩;refine wpOp_mono ?_ (h2' v W g1 g2);rintro c W' ⟨u,rfl,e1,e2,-⟩;have:=h _ _ _ e1 e2;rw [Rg.put_comm _ _ _ dij,Array.setIfInBounds_comm _ _ ij] at this;exact ⟨hS _ _ e1,this⟩
theorem dRun {i d:Nat} {I:World→Prop} {R:Value→World→Prop} {oi:Oper} {b:Act} (hi:ops[i]?=some oi) (hd:oi.dst=some d) (hw:Region.wanted oi (yielded ops b.tmps)=true)
  (hr:(execOp b.eval oi).run Tryz.prog W=.ok (.value v) W') (h1:I W') (h2:R v W'):Rg.Does Tryz.prog ops Q i d I R (fun _ _=>True) b W :=
 Rg.wpOp_value (some d) hi hd hw hr ⟨v,rfl,h1,h2,trivial⟩
theorem dCall {i d:Nat} {I:World→Prop} {R:Value→World→Prop} {oi:Oper} {b:Act} (hi:ops[i]?=some oi) (hd:oi.dst=some d) (hw:Region.wanted oi (yielded ops b.tmps)=true) (f:FuncId) (args:Array Value)
  (hr:(execOp b.eval oi).run Tryz.prog W=.ok (.enter f args) W) (hc:Calls Tryz.prog f args W fun e W'=>∃ v,e=.returned v∧I W'∧R v W'):Rg.Does Tryz.prog ops Q i d I R (fun _ _=>True) b W:=by
 unfold Rg.Does wpOp;simp only [hi,hw,if_true]
 left
 unfold Oper.wp;rw [hr,Oper.upon_enter];refine hc.mono fun e w' ⟨v,h1,h2,h3⟩=>?_;subst h1;exact ⟨v,by rw [hd],h2,h3,trivial⟩
end
def NewPI (F:Nat→Prop) (V:World) (x:List Nat) (i j:Int) (u v:Value) (W:World):Prop :=
 (∀ k,u.ownBlock=some k→V.heap.size≤k∧k<W.heap.size)∧FP (fun k=>F k∨u.ownBlock=some k) W u x∧∃ g,v=.slice (some ⟨g,0,none⟩) 2 2∧V.heap.size≤g∧u.ownBlock≠some g∧W.ownsRow V.heap.size 3 1 v 2 [.int .i64 i,.int .i64 j]
theorem exec_buildSlice2 {P:Program} {o:Oper} {a:Act} (t:TypeId) (n:Nat) (x y:Operand) (ho:o.op=.buildSlice t n #[(0,x),(1,y)]) {yv:Value} (hx:a.eval x=xv) (hy:a.eval y=yv)
  (hr:(Instr.buildSlice t n #[(0,xv),(1,yv)]).run P w=.ok v w'):(execOp a.eval o).run P w=.ok (.value v) w':=by
 unfold execOp;simp only [ho,Sem.run_bind,Sem.run_pure,List.map_toArray,List.map_cons,List.map_nil,hx,hy]
 first | (rw [hr]; rfl) | (erw [hr]; rfl) | simp [hr]
theorem np_own {x:List Nat} (h:Rg.NP W u x) (hf:Rg.Fresh B u) (h1:1≤x.length):∀ k,u.ownBlock=some k→B≤k∧k<W.heap.size:=by
 obtain ⟨a,c,e,_,_,_,hc⟩:=h.shape;obtain ⟨b,o,e1,hb,_⟩:=hc (by omega);subst e1;intro k hk;rw [e] at hk;have hk:some b=some k:=hk
 injection hk with hk
 subst hk;exact ⟨hf _ _ _ e,hb⟩
theorem np_fp {x:List Nat} (h:Rg.NP W u x):FP (fun k=>F k∨u.ownBlock=some k) W u x:=by
 obtain ⟨a,cap,h1,h2,h3,h4,h5⟩:=h;refine ⟨a,cap,h1,h2,h3,h4,fun h0=>?_⟩;obtain ⟨b,o,e1,e2,e3⟩:=h5 h0;subst e1;exact ⟨b,o,rfl,e2,.inr (by rw [h1]; rfl),e3⟩
theorem row2_new (W:World) (hB:B≤W.heap.size) (i j:Int):(W.alloc (.cells #[.int .i64 i,.int .i64 j] 3)).ownsRow B 3 1 (.slice (some ⟨W.heap.size,0,none⟩) 2 2) 2 [.int .i64 i,.int .i64 j] :=
 ⟨rfl,.inr ⟨W.heap.size,2,#[.int .i64 i,.int .i64 j],rfl,hB,by unfold World.alloc; simp,Nat.le_refl _,by unfold maxLen; omega,rfl,rfl⟩⟩
theorem NewPI.one {V:World} {x:List Nat} (h:Rg.NP W u x) (hf:Rg.Fresh V.heap.size u) (h1:1≤x.length) (hb:Below V.heap.size V W) (i j:Int) :
  NewPI F V x i j u (.slice (some ⟨W.heap.size,0,none⟩) 2 2) (W.alloc (.cells #[.int .i64 i,.int .i64 j] 3)):=by
 have hn:Below W.heap.size W (W.alloc (.cells #[.int .i64 i,.int .i64 j] 3)):=(Below.refl _ _).alloc (Nat.le_refl _) _;have ho:=np_own h hf h1;exact ⟨fun k e=>⟨(ho k e).1,Nat.lt_of_lt_of_le (ho k e).2 hn.size⟩,np_fp (Rg.NP.below h hn),_,rfl,hb.size,fun e=>Nat.lt_irrefl _ (ho _ e).2,row2_new W hb.size i j⟩
theorem NewPI.two {V:World} {x:List Nat} (i j:Int) (h:Rg.NPF (V.alloc (.cells #[.int .i64 i,.int .i64 j] 3)) W u x) (h1:1≤x.length) (hb:Below (V.alloc (.cells #[.int .i64 i,.int .i64 j] 3)).heap.size (V.alloc (.cells #[.int .i64 i,.int .i64 j] 3)) W) :
  NewPI F V x i j u (.slice (some ⟨V.heap.size,0,none⟩) 2 2) W:=by
 have ho:=np_own h.1 h.2 h1
 have e:(V.alloc (.cells #[.int .i64 i,.int .i64 j] 3)).heap.size=V.heap.size+1:=by simp
 exact ⟨fun k q=>⟨by have:=(ho k q).1; omega,(ho k q).2⟩,np_fp h.1,_,rfl,Nat.le_refl _,fun q=>by have:=(ho _ q).1; omega,Rg.row_below (row2_new V (Nat.le_refl _) i j) hb⟩
theorem Gw.grow {M0 P Q:Nat→Prop} {V:World} (h:Gw F0 M0 w F M V) (hb:Below V.heap.size V W) (hQ:∀ k,Q k→V.heap.size≤k∧k<W.heap.size) (hP:∀ k,P k→V.heap.size≤k):Gw F0 M0 w (fun k=>F k∨Q k) (fun k=>M k∨P k) W:=by
 have hs:=h.kp.size;refine ⟨⟨fun k hk=>.inl (h.kg.sub k hk),fun k hk=>hk.elim (fun e=>Nat.lt_of_lt_of_le (h.kg.lt k e) hb.size) (fun e=>(hQ k e).2),KF.trans h.kg.kf (KF.of_below (F:=F) hb) h.kg.sub⟩,Rg.Kp.trans (M:=M0) h.kp (Rg.Kp.of_below (M:=M0) hb) (fun _ _ e=>e),fun k hk=>hk.elim (h.nF k) (fun e=>.inr (Nat.le_trans hs (hQ k e).1)),fun k hk=>hk.elim (h.nM k) (fun e=>.inr (Nat.le_trans hs (hP k e)))⟩
theorem Gw.fresh {M0 P:Nat→Prop} {V:World} (h:Gw F0 M0 w F M V) (hb:Below V.heap.size V W) (hP:∀ k,P k→V.heap.size≤k):Gw F0 M0 w F (fun k=>M k∨P k) W:=by
 have hs:=h.kp.size;exact ⟨h.kg.kf' (KF.of_below (F:=F) hb),Rg.Kp.trans (M:=M0) h.kp (Rg.Kp.of_below (M:=M0) hb) (fun _ _ e=>e),h.nF,fun k hk=>hk.elim (h.nM k) (fun e=>.inr (Nat.le_trans hs (hP k e)))⟩
theorem own_eq {b c:Nat} (h:(Value.slice (some ⟨b,0,none⟩) n c).ownBlock=some k):b≤k:=by
 have h:some b=some k:=h
 injection h with h
 exact Nat.le_of_eq h
theorem NewPI.tm {tb:Nat} {V:World} {S:List Stp} {es:List En} {lv:Value} (h:TbM B F tb mb N V S nx es es es sv lv) (hb:Below V.heap.size V W) {x:List Nat} {i j:Int} (hn:NewPI F V x i j u v W):TbM B (fun k=>F k∨u.ownBlock=some k) tb mb N W S nx es es es sv lv:=by
 have hl:=h.Mlt;refine (h.below hb).mono (fun k=>.inl) (fun k hk=>hk.elim (fun e=>Nat.lt_of_lt_of_le (h.Flt k e) hb.size) (fun e=>(hn.1 k e).2)) (fun k hk hm=>hk.elim (fun e=>h.nF k e hm) (fun e=>?_));have:=(hn.1 k e).1;have:=hl k hm;omega
theorem NewPI.rw {V:World} {x:List Nat} {i:Nat} (hn:NewPI F V x ((i:Nat):Int) ((j:Nat):Int) u v W) (hb:Below V.heap.size V W) (hF:∀ k,F k→k<V.heap.size) (hM:∀ k,M k→k<V.heap.size):RwI (fun k=>F k∨u.ownBlock=some k) M W v ([i,j].map fun k:Nat=>((k:Nat):Int)):=by
 obtain ⟨h1,h2,g,rfl,hg,hne,how⟩:=hn;refine ⟨⟨V.heap.size,hb.size,how⟩,fun k e=>?_⟩;have hk:=World.ownsRow.lt how k e;have e:some g=some k:=e
 injection e with e
 subst e;exact ⟨fun h=>h.elim (fun q=>by have:=hF _ q; omega) hne,fun q=>by have:=hM _ q; omega,hk.2⟩
structure GrF (F:Nat→Prop) (W:World) (gb:Nat) (gs:List (List Nat)) (ga:Option Addr) (gc:Nat):Prop where
 c1:CF F W gb 1 (.slice ga gs.length gc)
 rows:Rg.FRows F W (.slice ga gs.length gc) (gs.map Ma.ofN)
theorem FRows.kfx {ll:List (List Int)} (h:Rg.FRows F w v ll) (hk:KF F w w'):Rg.FRows F w' v ll:=by
 obtain ⟨us,h1,h2⟩:=h;exact ⟨us,h1.kp hk (fun _ a b=>b a),h2.kp hk (fun _ a b=>b a)⟩
theorem FRows.monox {ll:List (List Int)} (h:Rg.FRows F w v ll) (hF:∀ k,F k→F' k):Rg.FRows F' w v ll:=by
 obtain ⟨us,h1,h2⟩:=h;exact ⟨us,h1.mono hF,h2.mono hF⟩
theorem GrF.kf {F:Nat→Prop} {W W':World} {gb:Nat} {gs:List (List Nat)} {ga:Option Addr} {gc:Nat} (h:GrF F W gb gs ga gc) (hk:KF F W W'):GrF F W' gb gs ga gc:=⟨h.c1.kf hk,FRows.kfx h.rows hk⟩
theorem GrF.mono {F F':Nat→Prop} {W:World} {gb:Nat} {gs:List (List Nat)} {ga:Option Addr} {gc:Nat} (h:GrF F W gb gs ga gc) (hF:∀ k,F k→F' k):GrF F' W gb gs ga gc:=⟨h.c1.mono hF,FRows.monox h.rows hF⟩
theorem GrF.kg {ga:Option Addr} (h:GrF F W gb gs ga gc) (hk:KG F W F' W'):GrF F' W' gb gs ga gc:=(h.kf hk.kf).mono hk.sub
theorem GrF.up {ga:Option Addr} (h:GrF F W gb gs ga gc) (hb:Below W.heap.size W W'):GrF (Fup F W W') W' gb gs ga gc:=(h.kf (KF.of_below hb)).mono fun k=>.inl
theorem GrF.at {ga:Option Addr} (h:GrF F W gb gs ga gc) {i:Nat} (hi:i<gs.length):∃ b o u,ga=some ⟨b,o,none⟩∧CF F W b (o+i) u∧FP F W u gs[i]:=by
 obtain ⟨us,⟨a,cap,h1,h2,h3,h4,h5⟩,h6⟩:=h.rows
 have hl:us.length=gs.length:=by have:=h6.1; rwa [List.length_map] at this
 simp only [Value.slice.injEq] at h1;obtain ⟨rfl,-,rfl⟩:=h1;obtain ⟨b,o,e1,e2,e3,e4⟩:=h5 (by omega);have:=h6.2 i (by omega) (by rw [List.length_map]; exact hi);rw [List.getElem_map] at this;exact ⟨b,o,us[i]'(by omega),e1,⟨e4 i (by omega),e3,e2⟩,this⟩
theorem InsR.xs {S:List Stp} {es:List En} {x:List Nat} {S':List Stp} {es':List En} (h:InsR N gs S T es x S' T' es'):∃ m,es'.map (·.x)=es.map (·.x)++m:=by
 obtain ⟨t,ht⟩:=h.key;have:=congrArg (List.map fun q:Nat × Nat × Nat × List Nat × Nat=>q.2.2.2.1) ht;rw [List.map_append,List.map_map,List.map_map] at this;exact ⟨_,this.symm⟩
theorem InsR.len {S:List Stp} {es:List En} {x:List Nat} {S':List Stp} {es':List En} (h:InsR N gs S T es x S' T' es'):es.length≤es'.length:=by
 have:=h.key.length_le
 simpa using this
theorem InsR.mem {S:List Stp} {es:List En} {x:List Nat} {S':List Stp} {es':List En} (h:InsR N gs S T es x S' T' es') {b:Nat} {y:List Nat} (he:∃ e∈es,e.b=b∧e.x=y∧e.at_=k):∃ e∈es',e.b=b∧e.x=y∧e.at_=k:=by
 obtain ⟨e,he,h1,h2,h3⟩:=he;have:key5 e∈es'.map key5:=h.key.subset (List.mem_map_of_mem he);obtain ⟨e',h4,h5⟩:=List.mem_map.1 this;simp only [key5,Prod.mk.injEq] at h5;exact ⟨e',h4,h5.1.trans h1,h5.2.2.2.1.trans h2,h5.2.2.2.2.trans h3⟩
theorem InsR.pp {S:List Stp} {es:List En} {x:List Nat} {S':List Stp} {es':List En} (h:InsR N gs S T es x S' T' es') {i:Nat} (hp:PP N (trE es) (es.map (·.x)) i k m) (hi:i<es.length) (hk:k≤i):PP N (trE es') (es'.map (·.x)) i k m:=by
 obtain ⟨m',hm⟩:=h.xs;rw [hm];exact hp.more (by rw [List.length_map]; exact hi) hk h.mono
theorem InsR.pr {S:List Stp} {es:List En} {x:List Nat} {S':List Stp} {es':List En} (h:InsR N gs S T es x S' T' es') {i:Nat} {b:List Nat} (ha:(es.map (·.x))[i]?=some a) (hb:(es.map (·.x))[k]?=some b) (hx:x=Ma.mulN a b):PrS N (trE es') (es'.map (·.x)) i k:=by
 obtain ⟨m',hm⟩:=h.xs;unfold PrS;rw [hm,List.getD_eq_getElem?_getD,List.getD_eq_getElem?_getD,List.getElem?_append_left (List.getElem?_eq_some_iff.1 ha).1,List.getElem?_append_left (List.getElem?_eq_some_iff.1 hb).1,ha,hb];show Cm.Sd N _ N (Ma.mulN a b);rw [← hx]; exact h.sd
def FiP (B:Nat) (F:Nat→Prop) (tb mb N:Nat) (gs:List (List Nat)) (sv lv:Value) (w:World) (ed:Ending) (w':World):Prop :=
 ∃ (F':Nat→Prop) (sv' lv':Value) (S':List Stp) (T':List (List Nat)) (es':List En),ed=.returned (.tuple #[])∧Tb N gs S' T' es'∧Cm.IsTr N (Cm.Gr N (·∈gs)) (Cm.idT N (trE es'))∧S'.length≤es'.length*(2*N+2) ∧
  TbM B F' tb mb N w' S' T'.length es' es' es' sv' lv'∧Gw F (tbS tb mb [] sv lv) w F' (tbS tb mb es' sv' lv') w'
structure FlR (N:Nat) (gs:List (List Nat)) (S:List Stp) (T:List (List Nat)) (es:List En):Prop where
 tb:Tb N gs S T es
 pre:gs <+: T
 bd:S.length≤es.length*(2*N+2)
theorem FlR.tl {S:List Stp} {es:List En} (h:FlR N gs S T es) (hN:N≤16) (hg:gs.length≤1000):T.length<50000∧es.length≤256:=by
 have h1:=h.tb.sk.len;have h2:=h.tb.few;have h3:N*N≤16*16:=Nat.mul_le_mul hN hN;have h4:es.length*(2*N+2)≤256*34:=Nat.mul_le_mul (by omega) (by omega);have h5:=h.bd;omega
theorem FlR.ins {S:List Stp} {es:List En} (h:FlR N gs S T es) {x:List Nat} {S':List Stp} {es':List En} (hi:InsR N gs S T es x S' T' es'):FlR N gs S' T' es':=by
 have h1:=h.bd;have h2:=hi.bd;exact ⟨hi.tb,h.pre.trans hi.pre,by omega⟩
theorem fill_t {tb:Nat} {lv:Value} (hg:∀ s∈gs,Cm.Gd N s) (h:TbM B F0 tb mb N w [] gs.length [] [] [] sv lv) (hn1:1≤N) (hn2:N≤16) (hgl:gs.length≤1000) {ga:Option Addr} (hr:Rg.FRows F0 w (.slice ga gs.length gc) (gs.map Ma.ofN)) :
  Calls Tryz.prog 64 #[.pointer (some ⟨tb,0,none⟩),.agg #[.int .i64 ((N:Nat):Int),.slice ga gs.length gc]] w (FiP B F0 tb mb N gs sv lv w):=by
 have HG:=ι hg;have HGI:=ι (Cm.Gr.isG (gs:=(·∈gs)) hg);have K:=ι (Gw.refl (M:=tbS tb mb [] sv lv) h.Flt);have hb:Below w.heap.size w (w.alloc (.cells #[.int .i64 ((N:Nat):Int),.slice ga gs.length gc] 24)):=(Below.refl _ _).alloc (Nat.le_refl _) _;have TM:=ι (h.up hb);replace K:=ι (K.out.up hb)
 have GR:=ι (show GrF (Fup F0 w (w.alloc (.cells #[.int .i64 ((N:Nat):Int),.slice ga gs.length gc] 24))) (w.alloc (.cells #[.int .i64 ((N:Nat):Int),.slice ga gs.length gc] 24)) w.heap.size gs ga gc from
  ⟨⟨by rw [Rg.cellNew]; rfl,.inr ⟨Nat.le_refl _,by simp⟩,by simp⟩,FRows.monox (FRows.kfx hr (KF.of_below hb)) fun k=>.inl⟩)
 have FL:=ι (show FlR N gs [] gs [] from ⟨⟨Mk.start hg,fun e he=>(by cases he),Cm.TabOk.nil0,List.nodup_nil⟩,List.prefix_rfl,Nat.zero_le _⟩);have HS:=ι (show ∀ j,j<0→∀ s,gs[j]?=some s→Cm.Sd N (Cm.idT N (trE [])) N s from fun j hj=>absurd hj (Nat.not_lt_zero _));obtain ⟨gb,hgb⟩:∃ b,b=w.heap.size:=⟨_,rfl⟩;clear hg h hr hb
 go_enter Tryz.func64,Tryz.ntmps64
 go_upto_region 0 with (fail);refine Rg.wl ?_;refine Rg.lr 3 (Rg.exec_box _ _ rfl rfl) ?_;go_frame;generalize Fup F0 w (w.alloc (.cells #[.int .i64 ((N:Nat):Int),.slice ga gs.length gc] 24))=F1 at *;rw [← hgb] at GR;generalize w.alloc (.cells #[.int .i64 ((N:Nat):Int),.slice ga gs.length gc] 24)=w0 at *;rw [← hgb];clear hgb;go_upto_region 1 with (fail);refine Rg.wl ?_;refine Rg.lr 10 (exec_fieldG _ rfl rfl) ?_;go_frame;refine Rg.lr 11 (Rg.lo (.slice ga gs.length gc) ⟨gb,1,none⟩ (Rg.run_loadSl _ _ Tryz.underlying22 GR.out.c1.cell)) ?_;go_frame;refine Rg.lr 12 (Rg.ln Tryz.underlying22) ?_;go_frame;refine Rg.lm 13 (.int .i64 ((0:Nat):Int)) ?_;go_frame;go_wp2
 go_loopw [13] (fun iv wr=>∃ (i:Nat) (F1:Nat→Prop) (sv1 lv1:Value) (S1:List Stp) (T1:List (List Nat)) (es1:List En),iv=.int .i64 ((i:Nat):Int)∧i≤gs.length∧Hid (FlR N gs S1 T1 es1)∧Hid (∀ j,j<i→∀ s,gs[j]?=some s→Cm.Sd N (Cm.idT N (trE es1)) N s)∧Hid (TbM B F1 tb mb N wr S1 T1.length es1 es1 es1 sv1 lv1)∧Hid (Gw F0 (tbS tb mb [] sv lv) w F1 (tbS tb mb es1 sv1 lv1) wr)∧Hid (GrF F1 wr gb gs ga gc)) (fun iv _=>gs.length - (intOf iv).toNat)
 case atStart=>exact ⟨0,_,sv,lv,[],gs,[],rfl,Nat.zero_le _,FL,HS,TM,K,GR⟩
 case round =>
  clear FL HS TM K GR;obtain ⟨i,F1,sv1,lv1,S1,T1,es1,rfl,hi,FL,HS,TM,K,GR⟩:=hrel;have HTL:=ι (FL.out.tl hn2 hgl)
  by_cases hil:i<gs.length
  case pos =>
   have HIL:=ι hil;obtain ⟨sb,so,su,e1,hcu,hfu⟩:=GR.out.at hil;subst e1;obtain ⟨s,hs⟩:∃ s,Hid (gs[i]'hil=s):=⟨_,ι rfl⟩;rw [hs.out] at hfu;have CU:=ι hcu;have XU:=ι hfu;have HSI:=ι (show gs[i]?=some s by rw [List.getElem?_eq_getElem hil,hs.out]);have HST:=ι (show T1[i]?=some s from pre_at FL.out.pre HSI.out);have HSG:=ι (show Cm.Gr N (·∈gs) s from .gen s (List.mem_of_getElem? HSI.out));clear hcu hfu;go_upto_region 2 with (fail);refine Rg.wl ?_;refine Rg.lr 14 (Rg.bn (.bool true) .lss (h:=b_lss _ Rg.dT)) ?_;go_frame;go_upto_region 3 with (fail);refine Rg.wl ?_;refine Rg.lm 15 (.int .i64 ((i:Nat):Int)) ?_;go_frame;refine Rg.lr 16 (exec_indexS slPerms _ _ rfl sb (so) (gs.length) gc (i) rfl rfl HIL.out) ?_;go_frame;refine Rg.lr 17 (Rg.lo (su) ⟨sb,so+i,none⟩ (Rg.run_loadSl _ _ Tryz.underlying30 CU.out.cell)) ?_;go_frame;refine Rg.la 4 (.int .i64 ((i:Nat):Int)) ?_;go_frame
   refine Rg.la 5 (su) ?_;go_frame;go_upto_region 4 with (fail);refine Rg.wl ?_;refine Rg.lm 18 (.pointer (some ⟨tb,0,none⟩)) ?_;go_frame;refine Rg.lm 19 (su) ?_;go_frame;refine Rg.lm 20 (.int .i64 ((i:Nat):Int)) ?_;go_frame;have hRW:=RwI.new (W:=wr) TM.out.Flt TM.out.Mlt [((i:Nat):Int)] (by simp) 3 rfl;have hb8:Below wr.heap.size wr (wr.alloc (.cells #[.int .i64 ((i:Nat):Int)] 3)):=(Below.refl _ _).alloc (Nat.le_refl _) _;refine Rg.lr 21 (Rg.exec_buildSlice _ _ _ rfl (.int .i64 ((i:Nat):Int)) rfl (run_build1N wr _)) ?_;go_frame;have TM8:=ι (TM.out.below hb8);have XU8:=ι (FP.kf XU.out (KF.of_below hb8));have GR8:=ι (GR.out.kf (KF.of_below hb8));have K8:=ι (K.out.fresh (P:=fun k=>(Value.slice (some ⟨wr.heap.size,0,none⟩) 1 1).ownBlock=some k) hb8 (fun k=>own_eq));clear hb8;refine Rg.lk 22 (exec_fn3 91 _ _ _ _ rfl rfl rfl rfl (Dicl0 _ _)) ?_;refine (insert_t (parts:=[i]) HG.out FL.out.tb TM8.out hn1 hn2 XU8.out HSG.out hRW (by simp) (by simp; exact ⟨_,HST.out⟩) (by show T1.getD i []=s; rw [List.getD_eq_getElem?_getD,HST.out]; rfl) HTL.out.1).mono ?_
   rintro e1 w21 ⟨F9,sv9,lv9,S9,T9,es9,rfl,hin9,hT9,hg9⟩;have hg9x:=hg9;refine ⟨_,rfl,?_⟩;go_frame;clear hg9x;have FL9:=ι (FL.out.ins hin9)
   have HS9:=ι (show ∀ j,j<i+1→∀ s,gs[j]?=some s→Cm.Sd N (Cm.idT N (trE es9)) N s from fun j hj z hz=>by
    by_cases e:j=i
    ·subst e
     rw [HSI.out] at hz
     injection hz with hz
     subst hz;exact hin9.sd
    ·exact Cm.Sd.mono (fun a b u _=>hin9.mono a b u) (HS.out j (by omega) z hz))
   have TM9:=ι hT9;have GR9:=ι (GR8.out.kg hg9.kg);have K9:=ι (K8.out.trans hg9);clear hT9 hg9 hin9 FL HS TM K GR TM8 XU8 GR8 K8 hRW CU XU;go_upto_region 5 with (fail);refine Rg.wl ?_;refine Rg.lr 23 (Rg.bn (.int .i64 (((i+1):Nat):Int)) .add (h:=b_add _ (by omega) (by omega))) ?_;go_frame;refine Rg.lm 13 (.int .i64 (((i+1):Nat):Int)) ?_;go_frame;go_wp2
   go_roundw
   case rel=>exact ⟨i+1,_,_,_,_,_,_,by go_num,HIL.out,FL9,HS9,TM9,K9,GR9⟩
   case measure=>simp [intOf]; have:=HIL.out; omega
  case neg =>
   have HSA:=ι (show ∀ s,s∈gs→Cm.Sd N (Cm.idT N (trE es1)) N s from fun s hs=>by
    obtain ⟨j,hj,e⟩:=List.getElem_of_mem hs
    exact HS.out j (by omega) s (by rw [List.getElem?_eq_getElem hj,e]))
   have HP:=ι (PP.start (n:=N) (tr:=trE es1) (l:=es1.map (·.x)));clear HS HTL GR;go_upto_region 2 with (fail);refine Rg.wl ?_;refine Rg.lr 14 (Rg.bn (.bool false) .lss (h:=b_lss _ Rg.dF)) ?_;go_frame;go_upto_region 6 with (fail);refine Rg.wl ?_;refine Rg.la 6 (.int .i64 ((0:Nat):Int)) ?_;go_frame;go_wp2
   go_loopw [6] (fun iv wr=>∃ (i:Nat) (F1:Nat→Prop) (sv1 lv1:Value) (S1:List Stp) (T1:List (List Nat)) (es1:List En),iv=.int .i64 ((i:Nat):Int)∧i≤es1.length∧Hid (FlR N gs S1 T1 es1)∧Hid (∀ s,s∈gs→Cm.Sd N (Cm.idT N (trE es1)) N s)∧Hid (PP N (trE es1) (es1.map (·.x)) i 0 0)∧Hid (TbM B F1 tb mb N wr S1 T1.length es1 es1 es1 sv1 lv1)∧Hid (Gw F0 (tbS tb mb [] sv lv) w F1 (tbS tb mb es1 sv1 lv1) wr)) (fun iv _=>300 - (intOf iv).toNat)
   case atStart=>exact ⟨0,_,_,_,_,_,_,rfl,Nat.zero_le _,FL,HSA,HP,TM,K⟩
   case round =>
    clear FL HSA HP TM K hi hil;obtain ⟨i,F1,sv1,lv1,S1,T1,es1,rfl,hi,FL,HSA,HP,TM,K⟩:=hrel;obtain ⟨la,lc,hls⟩:=Rg.row_shape TM.out.ls;subst hls;have hes:=(FL.out.tl hn2 hgl).2
    by_cases hil:i<es1.length
    case neg =>
     have hie:i=es1.length:=by omega
     have HIE:=ι hie;clear hie;go_upto_region 7 with (fail);refine Rg.wl ?_;refine Rg.lm 24 (.int .i64 ((i:Nat):Int)) ?_;go_frame;refine Rg.lm 25 (.pointer (some ⟨tb,0,none⟩)) ?_;go_frame;refine Rg.lr 26 (exec_nil _ rfl rfl) ?_;go_frame;refine Rg.lr 27 (exec_field _ rfl rfl (tblF3 _ _)) ?_;go_frame;refine Rg.lr 28 (Rg.lo (.slice la es1.length lc) ⟨tb,4,none⟩ (Rg.run_loadSl _ _ Tryz.underlying102 TM.out.h4.c)) ?_;go_frame;refine Rg.lr 29 (Rg.ln Tryz.underlying102) ?_;go_frame;refine Rg.lr 30 (Rg.bn (.bool false) .lss (h:=b_lss _ Rg.dF)) ?_;go_frame;have HTR:=ι ((FL.out.tb.le HSA.out).done HG.out (fun a b ha hb=>HP.out.1 a b (by rw [List.length_map] at ha; have:=HIE.out; omega) (by rw [List.length_map] at hb; have:=HIE.out; omega)));go_wp2
     first
     | go_end0
     | refine bodyPost_ret (results_none rfl _ _ _) rfl ?_
     exact ⟨_,_,_,_,_,_,rfl,FL.out.tb,HTR.out,FL.out.bd,TM.out,K.out⟩
    case pos =>
     have HIL:=ι hil;go_upto_region 7 with (fail);refine Rg.wl ?_;refine Rg.lm 24 (.int .i64 ((i:Nat):Int)) ?_;go_frame;refine Rg.lm 25 (.pointer (some ⟨tb,0,none⟩)) ?_;go_frame;refine Rg.lr 26 (exec_nil _ rfl rfl) ?_;go_frame;refine Rg.lr 27 (exec_field _ rfl rfl (tblF3 _ _)) ?_;go_frame;refine Rg.lr 28 (Rg.lo (.slice la es1.length lc) ⟨tb,4,none⟩ (Rg.run_loadSl _ _ Tryz.underlying102 TM.out.h4.c)) ?_;go_frame;refine Rg.lr 29 (Rg.ln Tryz.underlying102) ?_;go_frame;refine Rg.lr 30 (Rg.bn (.bool true) .lss (h:=b_lss _ Rg.dT)) ?_;go_frame;go_upto_region 9 with (fail);refine Rg.wl ?_;refine Rg.la 7 (.int .i64 ((0:Nat):Int)) ?_;go_frame;go_wp2
     go_loopw [7] (fun kv wr=>∃ (k:Nat) (F1:Nat→Prop) (sv1 lv1:Value) (S1:List Stp) (T1:List (List Nat)) (es1:List En),kv=.int .i64 ((k:Nat):Int)∧k≤i+1∧i<es1.length∧Hid (FlR N gs S1 T1 es1)∧Hid (∀ s,s∈gs→Cm.Sd N (Cm.idT N (trE es1)) N s)∧Hid (PP N (trE es1) (es1.map (·.x)) i k 0)∧Hid (TbM B F1 tb mb N wr S1 T1.length es1 es1 es1 sv1 lv1)∧Hid (Gw F0 (tbS tb mb [] sv lv) w F1 (tbS tb mb es1 sv1 lv1) wr)) (fun kv _=>300 - (intOf kv).toNat)
     case atStart=>exact ⟨0,_,_,_,_,_,_,rfl,Nat.zero_le _,hil,FL,HSA,HP,TM,K⟩
     case round =>
      clear FL HSA HP TM K HIL hil hi hes;obtain ⟨k,F1,sv1,lv1,S1,T1,es1,rfl,hk,hil,FL,HSA,HP,TM,K⟩:=hrel;have HTL:=ι (FL.out.tl hn2 hgl);have HIL:=ι hil;have HI256:=ι (show i<256 by have:=HTL.out.2; omega);obtain ⟨la,lc,hls⟩:=Rg.row_shape TM.out.ls;subst hls
      by_cases hki:k≤i
      case neg =>
       have hke:k=i+1:=by omega
       subst hke;have hi256:=HI256.out;go_upto_region 10 with (fail);refine Rg.wl ?_;refine Rg.lm 33 (.int .i64 (((i+1):Nat):Int)) ?_;go_frame;refine Rg.lm 34 (.int .i64 ((i:Nat):Int)) ?_;go_frame;refine Rg.lr 35 (Rg.bn (.bool false) .leq (h:=b_leq _ Rg.dF)) ?_;go_frame;go_upto_region 8 with (fail);refine Rg.wl ?_;refine Rg.lm 31 (.int .i64 ((i:Nat):Int)) ?_;go_frame;refine Rg.lr 32 (Rg.bn (.int .i64 (((i+1):Nat):Int)) .add (h:=b_add _ (by omega) (by omega))) ?_;go_frame;refine Rg.la 6 (.int .i64 (((i+1):Nat):Int)) ?_;go_frame;have HP2:=ι HP.out.row;go_wp2
       go_roundw
       case rel=>exact ⟨i+1,_,_,_,_,_,_,by go_num,HIL.out,FL,HSA,HP2,TM,K⟩
       case measure=>simp [intOf]; have:=HI256.out; omega
      case pos =>
       have HKL:=ι (show k<es1.length by omega);have HKI:=ι hki;obtain ⟨lg,lcc,e1,hca⟩:=TM.out.at HIL.out;simp only [Value.slice.injEq,true_and] at e1;obtain ⟨rfl,rfl⟩:=e1;obtain ⟨lg2,lcc2,e1,hcb⟩:=TM.out.at HKL.out;simp only [Value.slice.injEq,Option.some.injEq,Addr.mk.injEq,and_true,true_and] at e1;obtain ⟨rfl,rfl⟩:=e1;obtain ⟨ea,hea⟩:∃ e,Hid (es1[i]'HIL.out=e):=⟨_,ι rfl⟩;obtain ⟨eb,heb⟩:∃ e,Hid (es1[k]'HKL.out=e):=⟨_,ι rfl⟩;rw [hea.out] at hca;rw [heb.out] at hcb;obtain ⟨ba,hba⟩:∃ b,Hid (ea.b=b):=⟨_,ι rfl⟩;obtain ⟨bb,hbb⟩:∃ b,Hid (eb.b=b):=⟨_,ι rfl⟩;have CA:=ι (show CL wr lg (0+i) (.pointer (some ⟨ba,0,none⟩)) by rw [← hba.out]; exact hca);have CB:=ι (show CL wr lg (0+k) (.pointer (some ⟨bb,0,none⟩)) by rw [← hbb.out]; exact hcb);obtain ⟨xa,hxa⟩:∃ b,Hid (ea.x=b):=⟨_,ι rfl⟩;obtain ⟨xb,hxb⟩:∃ b,Hid (eb.x=b):=⟨_,ι rfl⟩
       obtain ⟨ka,hka⟩:∃ b,Hid (ea.at_=b):=⟨_,ι rfl⟩;obtain ⟨kb,hkb⟩:∃ b,Hid (eb.at_=b):=⟨_,ι rfl⟩;have MA:=ι (show ∃ e∈es1,e.b=ba∧e.x=xa∧e.at_=ka from ⟨ea,hea.out▸List.getElem_mem HIL.out,hba.out,hxa.out,hka.out⟩);have MB:=ι (show ∃ e∈es1,e.b=bb∧e.x=xb∧e.at_=kb from ⟨eb,heb.out▸List.getElem_mem HKL.out,hbb.out,hxb.out,hkb.out⟩);have HXA:=ι (show (es1.map (·.x))[i]?=some xa by rw [List.getElem?_map,List.getElem?_eq_getElem HIL.out,hea.out,← hxa.out]; rfl);have HXB:=ι (show (es1.map (·.x))[k]?=some xb by rw [List.getElem?_map,List.getElem?_eq_getElem HKL.out,heb.out,← hxb.out]; rfl);clear hca hcb hea heb hba hbb hxa hxb hka hkb;go_upto_region 10 with (fail);refine Rg.wl ?_;refine Rg.lm 33 (.int .i64 ((k:Nat):Int)) ?_;go_frame;refine Rg.lm 34 (.int .i64 ((i:Nat):Int)) ?_;go_frame;refine Rg.lr 35 (Rg.bn (.bool true) .leq (h:=b_leq _ Rg.dT)) ?_;go_frame
       have HCA:=ι ((show Below wr.heap.size wr wr.drew from (Below.refl _ _).drew).cell (p:=⟨lg,0+i,none⟩) CA.out.lt);have HCB:=ι ((show Below wr.heap.size wr wr.drew from (Below.refl _ _).drew).cell (p:=⟨lg,0+k,none⟩) CB.out.lt);go_upto_region 12 with (fail);have hV0:Below wr.heap.size wr wr.drew:=(Below.refl _ _).drew;replace TM:=ι (TM.out.up hV0);replace K:=ι (K.out.up hV0);generalize Fup F1 wr wr.drew=F1 at *;clear hV0;refine Rg.Any.begin (S:=Rg.Both 15 (fun W:World=>W.cell? ⟨tb,4,none⟩=some (.slice (some ⟨lg,0,none⟩) es1.length lc)∧W.cell? ⟨lg,0+i,none⟩=some (.pointer (some ⟨ba,0,none⟩))∧W.cell? ⟨lg,0+k,none⟩=some (.pointer (some ⟨bb,0,none⟩))) (fun _=>True)) mix ?_;generalize wr.drew=w102 at *;have hS:∀ (l:Array Bool) W,(fun W:World=>W.cell? ⟨tb,4,none⟩=some (.slice (some ⟨lg,0,none⟩) es1.length lc)∧W.cell? ⟨lg,0+i,none⟩=some (.pointer (some ⟨ba,0,none⟩))∧W.cell? ⟨lg,0+k,none⟩=some (.pointer (some ⟨bb,0,none⟩))) W→Rg.Both 15 (fun W:World=>W.cell? ⟨tb,4,none⟩=some (.slice (some ⟨lg,0,none⟩) es1.length lc)∧W.cell? ⟨lg,0+i,none⟩=some (.pointer (some ⟨ba,0,none⟩))∧W.cell? ⟨lg,0+k,none⟩=some (.pointer (some ⟨bb,0,none⟩))) (fun _=>True) l W:=fun l W h=>⟨.inr h,trivial⟩
       have hS2:∀ (l:Array Bool) W,l.getD 15 false=true→Rg.Both 15 (fun W:World=>W.cell? ⟨tb,4,none⟩=some (.slice (some ⟨lg,0,none⟩) es1.length lc)∧W.cell? ⟨lg,0+i,none⟩=some (.pointer (some ⟨ba,0,none⟩))∧W.cell? ⟨lg,0+k,none⟩=some (.pointer (some ⟨bb,0,none⟩))) (fun _=>True) l W:=fun l W h=>⟨.inl h,trivial⟩;have hI:(fun W:World=>W.cell? ⟨tb,4,none⟩=some (.slice (some ⟨lg,0,none⟩) es1.length lc)∧W.cell? ⟨lg,0+i,none⟩=some (.pointer (some ⟨ba,0,none⟩))∧W.cell? ⟨lg,0+k,none⟩=some (.pointer (some ⟨bb,0,none⟩))) w102:=⟨TM.out.h4.c,HCA.out.trans CA.out.cell,HCB.out.trans CB.out.cell⟩;refine Rg.tm 0 15 (.pointer (some ⟨tb,0,none⟩)) 38 (hS _ _ hI) ?_;go_frame;refine Rg.tg 1 15 (.pointer (some ⟨tb,0,none⟩)) 39 rfl rfl (.inl ⟨rfl,fun w _=>exec_nil _ rfl rfl⟩) (hS _ _ hI) ?_;go_frame;refine Rg.tg 2 15 (.pointer (some ⟨tb,4,none⟩)) 40 rfl rfl (.inl ⟨rfl,fun w _=>exec_field _ rfl rfl (tblF3 _ _)⟩) (hS _ _ hI) ?_;go_frame
       refine Rg.tT 3 15 (.slice (some ⟨lg,0,none⟩) es1.length lc) 41 rfl rfl (Rg.yc ⟨tb,4,none⟩ (fun W hW=>Rg.run_loadSl _ _ Tryz.underlying102 hW.1)) (hS _ _ hI) ?_;go_frame;refine Rg.tm 4 15 (.int .i64 ((i:Nat):Int)) 42 (hS _ _ hI) ?_;go_frame;refine Rg.tg 5 15 (.pointer (some ⟨lg,0+i,none⟩)) 43 rfl rfl (Rg.yields_index slEnts _ _ rfl rfl lg (0) (es1.length) lc (i) rfl rfl HIL.out) (hS _ _ hI) ?_;go_frame;refine Rg.tT 6 15 (.pointer (some ⟨ba,0,none⟩)) 44 rfl rfl (Rg.yc ⟨lg,0+i,none⟩ (fun W hW=>Rg.run_loadPtr _ _ Tryz.underlying110 hW.2.1)) (hS _ _ hI) ?_;go_frame;refine Rg.tm 7 15 (.pointer (some ⟨tb,0,none⟩)) 45 (hS _ _ hI) ?_;go_frame;refine Rg.tg 8 15 (.pointer (some ⟨tb,0,none⟩)) 46 rfl rfl (.inl ⟨rfl,fun w _=>exec_nil _ rfl rfl⟩) (hS _ _ hI) ?_;go_frame;refine Rg.tg 9 15 (.pointer (some ⟨tb,4,none⟩)) 47 rfl rfl (.inl ⟨rfl,fun w _=>exec_field _ rfl rfl (tblF3 _ _)⟩) (hS _ _ hI) ?_;go_frame
       refine Rg.tT 10 15 (.slice (some ⟨lg,0,none⟩) es1.length lc) 48 rfl rfl (Rg.yc ⟨tb,4,none⟩ (fun W hW=>Rg.run_loadSl _ _ Tryz.underlying102 hW.1)) (hS _ _ hI) ?_;go_frame;refine Rg.tm 11 15 (.int .i64 ((k:Nat):Int)) 49 (hS _ _ hI) ?_;go_frame;refine Rg.tg 12 15 (.pointer (some ⟨lg,0+k,none⟩)) 50 rfl rfl (Rg.yields_index slEnts _ _ rfl rfl lg (0) (es1.length) lc (k) rfl rfl HKL.out) (hS _ _ hI) ?_;go_frame;refine Rg.tT 13 15 (.pointer (some ⟨bb,0,none⟩)) 51 rfl rfl (Rg.yc ⟨lg,0+k,none⟩ (fun W hW=>Rg.run_loadPtr _ _ Tryz.underlying110 hW.2.2)) (hS _ _ hI) ?_;go_frame;refine Rg.tg 14 15 (.pointer (some ⟨ba,0,none⟩)) 8 rfl rfl (.inl ⟨rfl,fun w _=>Rg.exec_assign (v:=.pointer (some ⟨ba,0,none⟩)) _ rfl rfl⟩) (hS _ _ hI) ?_;go_frame;refine Rg.aR 15 9 rfl rfl (Rg.xa (.pointer (some ⟨bb,0,none⟩)) _ rfl rfl) (hS2 _ _ rfl) ?_;go_frame;refine Rg.Any.done (by kernel_rfl) ?_ _
       clear hS2;clear hS hI;clear CA CB HCA HCB;go_upto_region 13 with (fail);have hV1:Below w102.heap.size w102 w102.drew:=(Below.refl _ _).drew;replace TM:=ι (TM.out.up hV1);replace K:=ι (K.out.up hV1);clear hV1;generalize Fup F1 w102 w102.drew=FVp at *;obtain ⟨eap,heap,habp,haxp,hakp⟩:=MA.out;obtain ⟨ebp,hebp,hbbp,hbxp,hbkp⟩:=MB.out;obtain ⟨vap,yap,qap⟩:=TM.out.en _ heap;obtain ⟨vbp,ybp,qbp⟩:=TM.out.en _ hebp;have EA:=ι (show Cw w102.drew ba 0 vap by rw [← habp]; exact qap.c0);have EB:=ι (show Cw w102.drew bb 0 vbp by rw [← hbbp]; exact qbp.c0);have AA:=ι (show Cw w102.drew ba 2 (.int .i64 ((ka:Nat):Int)) by rw [← habp,← hakp]; exact qap.c2);have AB:=ι (show Cw w102.drew bb 2 (.int .i64 ((kb:Nat):Int)) by rw [← hbbp,← hbkp]; exact qbp.c2);have XA:=ι (show FP FVp w102.drew vap xa by rw [← haxp]; exact qap.x);have XB:=ι (show FP FVp w102.drew vbp xb by rw [← hbxp]; exact qbp.x)
       have GXA:=ι (show Cm.Gd N xa by rw [← haxp]; exact (FL.out.tb.en _ heap).gd);have GXB:=ι (show Cm.Gd N xb by rw [← hbxp]; exact (FL.out.tb.en _ hebp).gd);have HTA:=ι (show T1[ka]?=some xa by rw [← haxp,← hakp]; exact (FL.out.tb.en _ heap).at_);have HTB:=ι (show T1[kb]?=some xb by rw [← hbxp,← hbkp]; exact (FL.out.tb.en _ hebp).at_)
       have HGR:=ι (show Cm.Gr N (·∈gs) (Ma.mulN xa xb) from by
        have key:=fun e (he:e∈es1)=>((FL.out.tb.le HSA.out).gr (List.mem_map_of_mem he)).1;rw [← haxp,← hbxp]
        exact HGI.out.mul _ _ (key _ heap) (key _ hebp))
       clear qap qbp heap hebp habp haxp hakp hbbp hbxp hbkp;refine Rg.Any.begin (S:=Rg.Tw 9 (fun W:World=>W.cell? ⟨ba,0,none⟩=some vap∧W.cell? ⟨bb,0,none⟩=some vbp) 18 (fun W:World=>W.cell? ⟨ba,2,none⟩=some (.int .i64 ((ka:Nat):Int))∧W.cell? ⟨bb,2,none⟩=some (.int .i64 ((kb:Nat):Int)))) mix ?_;generalize w102.drew=w103 at *
       have hSB:∀ (l:Array Bool) W,Below w103.heap.size w103 W→Rg.Tw 9 (fun W:World=>W.cell? ⟨ba,0,none⟩=some vap∧W.cell? ⟨bb,0,none⟩=some vbp) 18 (fun W:World=>W.cell? ⟨ba,2,none⟩=some (.int .i64 ((ka:Nat):Int))∧W.cell? ⟨bb,2,none⟩=some (.int .i64 ((kb:Nat):Int))) l W:=fun l W h =>
        ⟨.inr ⟨(h.cell (p:=⟨ba,0,none⟩) EA.out.lt).trans EA.out.c,(h.cell (p:=⟨bb,0,none⟩) EB.out.lt).trans EB.out.c⟩,.inr ⟨(h.cell (p:=⟨ba,2,none⟩) AA.out.lt).trans AA.out.c,(h.cell (p:=⟨bb,2,none⟩) AB.out.lt).trans AB.out.c⟩⟩
       have hS:∀ l:Array Bool,Rg.Tw 9 (fun W:World=>W.cell? ⟨ba,0,none⟩=some vap∧W.cell? ⟨bb,0,none⟩=some vbp) 18 (fun W:World=>W.cell? ⟨ba,2,none⟩=some (.int .i64 ((ka:Nat):Int))∧W.cell? ⟨bb,2,none⟩=some (.int .i64 ((kb:Nat):Int))) l w103:=fun l=>hSB l _ (Below.refl _ _);refine Rg.Any.takeP (i:=0) (t:=9) (u:=18) (v:=.pointer (some ⟨tb,0,none⟩)) (some 52) rfl rfl (by kernel_rfl) (by kernel_rfl) (by kernel_rfl) (fun _ _ _ h=>h) rfl rfl (.inl ⟨rfl,fun w _=>Rg.exec_move (v:=.pointer (some ⟨tb,0,none⟩)) _ rfl rfl⟩) (hS _) ?_;go_frame;refine Rg.Any.takeP (i:=1) (t:=9) (u:=18) (v:=.pointer (some ⟨ba,0,none⟩)) (some 53) rfl rfl (by kernel_rfl) (by kernel_rfl) (by kernel_rfl) (fun _ _ _ h=>h) rfl rfl (.inl ⟨rfl,fun w _=>Rg.exec_move (v:=.pointer (some ⟨ba,0,none⟩)) _ rfl rfl⟩) (hS _) ?_;go_frame;refine Rg.Any.takeP (i:=2) (t:=9) (u:=18) (v:=.pointer (some ⟨ba,0,none⟩)) (some 54) rfl rfl (by kernel_rfl) (by kernel_rfl) (by kernel_rfl) (fun _ _ _ h=>h) rfl rfl (.inl ⟨rfl,fun w _=>exec_nil _ rfl rfl⟩) (hS _) ?_;go_frame
       refine Rg.Any.takeP (i:=3) (t:=9) (u:=18) (v:=.pointer (some ⟨ba,0,none⟩)) (some 55) rfl rfl (by kernel_rfl) (by kernel_rfl) (by kernel_rfl) (fun _ _ _ h=>h) rfl rfl (.inl ⟨rfl,fun w _=>exec_field _ rfl rfl (enF0 _ _)⟩) (hS _) ?_;go_frame;refine Rg.Any.takeA (i:=4) (t:=9) (u:=18) (v:=vap) (some 56) rfl rfl (by kernel_rfl) (by kernel_rfl) (by kernel_rfl) (fun _ _ _ h=>h) rfl rfl (by kernel_rfl) rfl (Rg.yc ⟨ba,0,none⟩ (fun W hW=>Rg.run_loadSl _ _ Tryz.underlying30 hW.1)) (hS _) ?_;go_frame;refine Rg.Any.takeP (i:=5) (t:=9) (u:=18) (v:=.pointer (some ⟨bb,0,none⟩)) (some 57) rfl rfl (by kernel_rfl) (by kernel_rfl) (by kernel_rfl) (fun _ _ _ h=>h) rfl rfl (.inl ⟨rfl,fun w _=>Rg.exec_move (v:=.pointer (some ⟨bb,0,none⟩)) _ rfl rfl⟩) (hS _) ?_;go_frame;refine Rg.Any.takeP (i:=6) (t:=9) (u:=18) (v:=.pointer (some ⟨bb,0,none⟩)) (some 58) rfl rfl (by kernel_rfl) (by kernel_rfl) (by kernel_rfl) (fun _ _ _ h=>h) rfl rfl (.inl ⟨rfl,fun w _=>exec_nil _ rfl rfl⟩) (hS _) ?_;go_frame
       refine Rg.Any.takeP (i:=7) (t:=9) (u:=18) (v:=.pointer (some ⟨bb,0,none⟩)) (some 59) rfl rfl (by kernel_rfl) (by kernel_rfl) (by kernel_rfl) (fun _ _ _ h=>h) rfl rfl (.inl ⟨rfl,fun w _=>exec_field _ rfl rfl (enF0 _ _)⟩) (hS _) ?_;go_frame;refine Rg.Any.takeA (i:=8) (t:=9) (u:=18) (v:=vbp) (some 60) rfl rfl (by kernel_rfl) (by kernel_rfl) (by kernel_rfl) (fun _ _ _ h=>h) rfl rfl (by kernel_rfl) rfl (Rg.yc ⟨bb,0,none⟩ (fun W hW=>Rg.run_loadSl _ _ Tryz.underlying30 hW.2)) (hS _) ?_;go_frame;refine Rg.Any.takeP (i:=10) (t:=9) (u:=18) (v:=.pointer (some ⟨ba,0,none⟩)) (some 62) rfl rfl (by kernel_rfl) (by kernel_rfl) (by kernel_rfl) (fun _ _ _ h=>h) rfl rfl (.inl ⟨rfl,fun w _=>Rg.exec_move (v:=.pointer (some ⟨ba,0,none⟩)) _ rfl rfl⟩) (hS _) ?_;go_frame;refine Rg.Any.takeP (i:=11) (t:=9) (u:=18) (v:=.pointer (some ⟨ba,0,none⟩)) (some 63) rfl rfl (by kernel_rfl) (by kernel_rfl) (by kernel_rfl) (fun _ _ _ h=>h) rfl rfl (.inl ⟨rfl,fun w _=>exec_nil _ rfl rfl⟩) (hS _) ?_;go_frame
       refine Rg.Any.takeP (i:=12) (t:=9) (u:=18) (v:=.pointer (some ⟨ba,2,none⟩)) (some 64) rfl rfl (by kernel_rfl) (by kernel_rfl) (by kernel_rfl) (fun _ _ _ h=>h) rfl rfl (.inl ⟨rfl,fun w _=>exec_field _ rfl rfl (enF2 _ _)⟩) (hS _) ?_;go_frame;refine Rg.Any.takeB (i:=13) (t:=9) (u:=18) (v:=.int .i64 ((ka:Nat):Int)) (some 65) rfl rfl (by kernel_rfl) (by kernel_rfl) (by kernel_rfl) (fun _ _ _ h=>h) rfl rfl (by kernel_rfl) rfl (Rg.yc ⟨ba,2,none⟩ (fun W hW=>run_loadInt hW.1)) (hS _) ?_;go_frame;refine Rg.Any.takeP (i:=14) (t:=9) (u:=18) (v:=.pointer (some ⟨bb,0,none⟩)) (some 66) rfl rfl (by kernel_rfl) (by kernel_rfl) (by kernel_rfl) (fun _ _ _ h=>h) rfl rfl (.inl ⟨rfl,fun w _=>Rg.exec_move (v:=.pointer (some ⟨bb,0,none⟩)) _ rfl rfl⟩) (hS _) ?_;go_frame;refine Rg.Any.takeP (i:=15) (t:=9) (u:=18) (v:=.pointer (some ⟨bb,0,none⟩)) (some 67) rfl rfl (by kernel_rfl) (by kernel_rfl) (by kernel_rfl) (fun _ _ _ h=>h) rfl rfl (.inl ⟨rfl,fun w _=>exec_nil _ rfl rfl⟩) (hS _) ?_;go_frame
       refine Rg.Any.takeP (i:=16) (t:=9) (u:=18) (v:=.pointer (some ⟨bb,2,none⟩)) (some 68) rfl rfl (by kernel_rfl) (by kernel_rfl) (by kernel_rfl) (fun _ _ _ h=>h) rfl rfl (.inl ⟨rfl,fun w _=>exec_field _ rfl rfl (enF2 _ _)⟩) (hS _) ?_;go_frame;refine Rg.Any.takeB (i:=17) (t:=9) (u:=18) (v:=.int .i64 ((kb:Nat):Int)) (some 69) rfl rfl (by kernel_rfl) (by kernel_rfl) (by kernel_rfl) (fun _ _ _ h=>h) rfl rfl (by kernel_rfl) rfl (Rg.yc ⟨bb,2,none⟩ (fun W hW=>run_loadInt hW.2)) (hS _) ?_;go_frame;refine duo2 (i:=9) (j:=18) (di:=61) (dj:=70) (I:=fun W=>Below w103.heap.size w103 W) (R1:=fun u W=>Rg.NPF w103 W u (Ma.mulN xa xb)) (R2:=fun v W=>v=.slice (some ⟨w103.heap.size,0,none⟩) 2 2∧W=w103.alloc (.cells #[.int .i64 ((ka:Nat):Int),.int .i64 ((kb:Nat):Int)] 3)) (R:=fun u v W=>NewPI FVp w103 (Ma.mulN xa xb) ((ka:Nat):Int) ((kb:Nat):Int) u v W) hSB (by decide) (by decide) (by kernel_rfl) (by kernel_rfl) (by kernel_rfl) ?_ ?_ ?_ ?_ ?_
       ·refine dCall rfl rfl rfl _ _ (exec_fn 44 _ _ _ rfl rfl rfl (Bgcl6 _ _)) ?_
        refine (fcMul_any _ _ xa xb w103 XA.out.np XB.out.np (fun q hq=>by rw [GXB.out.2]; exact gd_mem GXA.out hq) (by rw [GXA.out.2]; omega) (by rw [GXA.out.2]; exact hn1) (by rw [GXB.out.2]; exact hn1)).mono ?_;rintro e1 W ⟨u,rfl,hu,hb⟩;exact ⟨u,rfl,hb,hu⟩
       ·intro u W hI hu
        have hn:Below W.heap.size W (W.alloc (.cells #[.int .i64 ((ka:Nat):Int),.int .i64 ((kb:Nat):Int)] 3)):=(Below.refl _ _).alloc (Nat.le_refl _) _;exact dRun rfl rfl rfl (exec_buildSlice2 _ _ _ _ rfl rfl rfl (run_build2N W _ _)) (Rg.acc hI hn) (NewPI.one hu.1 hu.2 (by rw [Ma.len_mulN,GXA.out.2]; exact hn1) hI _ _)
       ·have hn:Below w103.heap.size w103 (w103.alloc (.cells #[.int .i64 ((ka:Nat):Int),.int .i64 ((kb:Nat):Int)] 3)):=(Below.refl _ _).alloc (Nat.le_refl _) _
        exact dRun rfl rfl rfl (exec_buildSlice2 _ _ _ _ rfl rfl rfl (run_build2N w103 _ _)) hn ⟨rfl,rfl⟩
       ·rintro v W hI ⟨rfl,rfl⟩
        refine dCall rfl rfl rfl _ _ (exec_fn 44 _ _ _ rfl rfl rfl (Bgcl6 _ _)) ?_;refine (fcMul_any _ _ xa xb _ (Rg.NP.below XA.out.np hI) (Rg.NP.below XB.out.np hI) (fun q hq=>by rw [GXB.out.2]; exact gd_mem GXA.out hq) (by rw [GXA.out.2]; omega) (by rw [GXA.out.2]; exact hn1) (by rw [GXB.out.2]; exact hn1)).mono ?_;rintro e1 W ⟨u,rfl,hu,hb⟩;exact ⟨u,rfl,Rg.acc hI hb,NewPI.two _ _ hu (by rw [Ma.len_mulN,GXA.out.2]; exact hn1) hb⟩
       rintro W8 u8 v8 hI hnw;have TM8:=ι (NewPI.tm TM.out hI hnw);have RW8:=ι (hnw.rw hI TM.out.Flt TM.out.Mlt)
       have K8:=ι (K.out.grow (P:=fun k=>v8.ownBlock=some k) (Q:=fun k=>u8.ownBlock=some k) hI hnw.1 (fun k e=>by
        obtain ⟨_,_,g,rfl,hg,_,_⟩:=hnw
        exact Nat.le_trans hg (own_eq e)))
       have X8:=ι hnw.2.1;clear hnw TM K EA EB AA AB XA XB hS;go_frame;have hS8:=hSB;refine Rg.Any.one (i:=19) (by kernel_rfl) (Rg.Any.ask (some 71) rfl rfl rfl _ _ (exec_fn3 91 _ _ _ _ rfl rfl rfl rfl (Dicl0 _ _)) ?_)
       refine (insert_t (parts:=[ka,kb]) HG.out FL.out.tb TM8.out hn1 hn2 X8.out HGR.out RW8.out ⟨Nat.le_succ _,Nat.le_refl _⟩ (fun q hq=>by
        rcases List.mem_cons.1 hq with hq | hq
        ·exact ⟨_,by rw [hq]; exact HTA.out⟩
        ·rw [List.mem_singleton] at hq; exact ⟨_,by rw [hq]; exact HTB.out⟩) (by show Ma.mulN (T1.getD ka []) (T1.getD kb [])=_; rw [List.getD_eq_getElem?_getD,List.getD_eq_getElem?_getD,HTA.out,HTB.out]; rfl) HTL.out.1).mono ?_
       rintro e1 W9p ⟨F9p,sv9p,lv9p,S9p,T9p,es9p,rfl,hin9,hT9,hg9⟩;refine ⟨_,rfl,⟨.inl rfl,.inl rfl⟩,?_⟩;go_frame;refine Rg.Any.done (by kernel_rfl) ?_ _;have FL9:=ι (FL.out.ins hin9);have HSA9:=ι (show ∀ s,s∈gs→Cm.Sd N (Cm.idT N (trE es9p)) N s from fun s hs=>Cm.Sd.mono (fun a b u _=>hin9.mono a b u) (HSA.out s hs));have TM9:=ι hT9;have K9:=ι (K8.out.trans hg9);have MA9:=ι (hin9.mem MA.out);have MB9:=ι (hin9.mem MB.out);have HLE9:=ι hin9.len;have HPR:=ι (hin9.pr HXA.out HXB.out rfl);have HPP:=ι (hin9.pp HP.out HIL.out HKI.out)
       have HXA9:=ι (show (es9p.map (·.x))[i]?=some xa by
        obtain ⟨m,hm⟩:=hin9.xs
        rw [hm,List.getElem?_append_left (List.getElem?_eq_some_iff.1 HXA.out).1]; exact HXA.out)
       have HXB9:=ι (show (es9p.map (·.x))[k]?=some xb by
        obtain ⟨m,hm⟩:=hin9.xs
        rw [hm,List.getElem?_append_left (List.getElem?_eq_some_iff.1 HXB.out).1]; exact HXB.out)
       have HTL9:=ι (FL9.out.tl hn2 hgl);have HIL9:=ι (show i<es9p.length by have:=HLE9.out; have:=HIL.out; omega);clear hT9 hg9 hin9 FL HSA TM8 K8 RW8 X8 MA MB HXA HXB HTL HIL HP hI hSB hS8 GXA GXB HTA HTB HGR HLE9;have HP:=ι (HPP.out.step0 HPR.out);have FL:=FL9;have HSA:=HSA9;have TM:=TM9;have K:=K9;have MA:=MA9;have MB:=MB9;have HXA:=HXA9;have HXB:=HXB9;have HTL:=HTL9;have HIL:=HIL9;clear FL9 HSA9 TM9 K9 MA9 MB9 HXA9 HXB9 HTL9 HIL9 HPP HPR;go_upto_region 14 with (fail);have hV1:Below W9p.heap.size W9p W9p.drew:=(Below.refl _ _).drew;replace TM:=ι (TM.out.up hV1);replace K:=ι (K.out.up hV1);clear hV1;generalize Fup F9p W9p W9p.drew=FVq at *;obtain ⟨eaq,heaq,habq,haxq,hakq⟩:=MB.out;obtain ⟨ebq,hebq,hbbq,hbxq,hbkq⟩:=MA.out;obtain ⟨vaq,yaq,qaq⟩:=TM.out.en _ heaq;obtain ⟨vbq,ybq,qbq⟩:=TM.out.en _ hebq;have EA:=ι (show Cw W9p.drew bb 0 vaq by rw [← habq]; exact qaq.c0)
       have EB:=ι (show Cw W9p.drew ba 0 vbq by rw [← hbbq]; exact qbq.c0);have AA:=ι (show Cw W9p.drew bb 2 (.int .i64 ((kb:Nat):Int)) by rw [← habq,← hakq]; exact qaq.c2);have AB:=ι (show Cw W9p.drew ba 2 (.int .i64 ((ka:Nat):Int)) by rw [← hbbq,← hbkq]; exact qbq.c2);have XA:=ι (show FP FVq W9p.drew vaq xb by rw [← haxq]; exact qaq.x);have XB:=ι (show FP FVq W9p.drew vbq xa by rw [← hbxq]; exact qbq.x);have GXA:=ι (show Cm.Gd N xb by rw [← haxq]; exact (FL.out.tb.en _ heaq).gd);have GXB:=ι (show Cm.Gd N xa by rw [← hbxq]; exact (FL.out.tb.en _ hebq).gd);have HTA:=ι (show T9p[kb]?=some xb by rw [← haxq,← hakq]; exact (FL.out.tb.en _ heaq).at_);have HTB:=ι (show T9p[ka]?=some xa by rw [← hbxq,← hbkq]; exact (FL.out.tb.en _ hebq).at_)
       have HGR:=ι (show Cm.Gr N (·∈gs) (Ma.mulN xb xa) from by
        have key:=fun e (he:e∈es9p)=>((FL.out.tb.le HSA.out).gr (List.mem_map_of_mem he)).1;rw [← haxq,← hbxq]
        exact HGI.out.mul _ _ (key _ heaq) (key _ hebq))
       clear qaq qbq heaq hebq habq haxq hakq hbbq hbxq hbkq;refine Rg.Any.begin (S:=Rg.Tw 9 (fun W:World=>W.cell? ⟨bb,0,none⟩=some vaq∧W.cell? ⟨ba,0,none⟩=some vbq) 18 (fun W:World=>W.cell? ⟨bb,2,none⟩=some (.int .i64 ((kb:Nat):Int))∧W.cell? ⟨ba,2,none⟩=some (.int .i64 ((ka:Nat):Int)))) mix ?_;generalize W9p.drew=w124 at *
       have hSB:∀ (l:Array Bool) W,Below w124.heap.size w124 W→Rg.Tw 9 (fun W:World=>W.cell? ⟨bb,0,none⟩=some vaq∧W.cell? ⟨ba,0,none⟩=some vbq) 18 (fun W:World=>W.cell? ⟨bb,2,none⟩=some (.int .i64 ((kb:Nat):Int))∧W.cell? ⟨ba,2,none⟩=some (.int .i64 ((ka:Nat):Int))) l W:=fun l W h =>
        ⟨.inr ⟨(h.cell (p:=⟨bb,0,none⟩) EA.out.lt).trans EA.out.c,(h.cell (p:=⟨ba,0,none⟩) EB.out.lt).trans EB.out.c⟩,.inr ⟨(h.cell (p:=⟨bb,2,none⟩) AA.out.lt).trans AA.out.c,(h.cell (p:=⟨ba,2,none⟩) AB.out.lt).trans AB.out.c⟩⟩
       have hS:∀ l:Array Bool,Rg.Tw 9 (fun W:World=>W.cell? ⟨bb,0,none⟩=some vaq∧W.cell? ⟨ba,0,none⟩=some vbq) 18 (fun W:World=>W.cell? ⟨bb,2,none⟩=some (.int .i64 ((kb:Nat):Int))∧W.cell? ⟨ba,2,none⟩=some (.int .i64 ((ka:Nat):Int))) l w124:=fun l=>hSB l _ (Below.refl _ _);refine Rg.Any.takeP (i:=0) (t:=9) (u:=18) (v:=.pointer (some ⟨tb,0,none⟩)) (some 72) rfl rfl (by kernel_rfl) (by kernel_rfl) (by kernel_rfl) (fun _ _ _ h=>h) rfl rfl (.inl ⟨rfl,fun w _=>Rg.exec_move (v:=.pointer (some ⟨tb,0,none⟩)) _ rfl rfl⟩) (hS _) ?_;go_frame;refine Rg.Any.takeP (i:=1) (t:=9) (u:=18) (v:=.pointer (some ⟨bb,0,none⟩)) (some 73) rfl rfl (by kernel_rfl) (by kernel_rfl) (by kernel_rfl) (fun _ _ _ h=>h) rfl rfl (.inl ⟨rfl,fun w _=>Rg.exec_move (v:=.pointer (some ⟨bb,0,none⟩)) _ rfl rfl⟩) (hS _) ?_;go_frame;refine Rg.Any.takeP (i:=2) (t:=9) (u:=18) (v:=.pointer (some ⟨bb,0,none⟩)) (some 74) rfl rfl (by kernel_rfl) (by kernel_rfl) (by kernel_rfl) (fun _ _ _ h=>h) rfl rfl (.inl ⟨rfl,fun w _=>exec_nil _ rfl rfl⟩) (hS _) ?_;go_frame
       refine Rg.Any.takeP (i:=3) (t:=9) (u:=18) (v:=.pointer (some ⟨bb,0,none⟩)) (some 75) rfl rfl (by kernel_rfl) (by kernel_rfl) (by kernel_rfl) (fun _ _ _ h=>h) rfl rfl (.inl ⟨rfl,fun w _=>exec_field _ rfl rfl (enF0 _ _)⟩) (hS _) ?_;go_frame;refine Rg.Any.takeA (i:=4) (t:=9) (u:=18) (v:=vaq) (some 76) rfl rfl (by kernel_rfl) (by kernel_rfl) (by kernel_rfl) (fun _ _ _ h=>h) rfl rfl (by kernel_rfl) rfl (Rg.yc ⟨bb,0,none⟩ (fun W hW=>Rg.run_loadSl _ _ Tryz.underlying30 hW.1)) (hS _) ?_;go_frame;refine Rg.Any.takeP (i:=5) (t:=9) (u:=18) (v:=.pointer (some ⟨ba,0,none⟩)) (some 77) rfl rfl (by kernel_rfl) (by kernel_rfl) (by kernel_rfl) (fun _ _ _ h=>h) rfl rfl (.inl ⟨rfl,fun w _=>Rg.exec_move (v:=.pointer (some ⟨ba,0,none⟩)) _ rfl rfl⟩) (hS _) ?_;go_frame;refine Rg.Any.takeP (i:=6) (t:=9) (u:=18) (v:=.pointer (some ⟨ba,0,none⟩)) (some 78) rfl rfl (by kernel_rfl) (by kernel_rfl) (by kernel_rfl) (fun _ _ _ h=>h) rfl rfl (.inl ⟨rfl,fun w _=>exec_nil _ rfl rfl⟩) (hS _) ?_;go_frame
       refine Rg.Any.takeP (i:=7) (t:=9) (u:=18) (v:=.pointer (some ⟨ba,0,none⟩)) (some 79) rfl rfl (by kernel_rfl) (by kernel_rfl) (by kernel_rfl) (fun _ _ _ h=>h) rfl rfl (.inl ⟨rfl,fun w _=>exec_field _ rfl rfl (enF0 _ _)⟩) (hS _) ?_;go_frame;refine Rg.Any.takeA (i:=8) (t:=9) (u:=18) (v:=vbq) (some 80) rfl rfl (by kernel_rfl) (by kernel_rfl) (by kernel_rfl) (fun _ _ _ h=>h) rfl rfl (by kernel_rfl) rfl (Rg.yc ⟨ba,0,none⟩ (fun W hW=>Rg.run_loadSl _ _ Tryz.underlying30 hW.2)) (hS _) ?_;go_frame;refine Rg.Any.takeP (i:=10) (t:=9) (u:=18) (v:=.pointer (some ⟨bb,0,none⟩)) (some 82) rfl rfl (by kernel_rfl) (by kernel_rfl) (by kernel_rfl) (fun _ _ _ h=>h) rfl rfl (.inl ⟨rfl,fun w _=>Rg.exec_move (v:=.pointer (some ⟨bb,0,none⟩)) _ rfl rfl⟩) (hS _) ?_;go_frame;refine Rg.Any.takeP (i:=11) (t:=9) (u:=18) (v:=.pointer (some ⟨bb,0,none⟩)) (some 83) rfl rfl (by kernel_rfl) (by kernel_rfl) (by kernel_rfl) (fun _ _ _ h=>h) rfl rfl (.inl ⟨rfl,fun w _=>exec_nil _ rfl rfl⟩) (hS _) ?_;go_frame
       refine Rg.Any.takeP (i:=12) (t:=9) (u:=18) (v:=.pointer (some ⟨bb,2,none⟩)) (some 84) rfl rfl (by kernel_rfl) (by kernel_rfl) (by kernel_rfl) (fun _ _ _ h=>h) rfl rfl (.inl ⟨rfl,fun w _=>exec_field _ rfl rfl (enF2 _ _)⟩) (hS _) ?_;go_frame;refine Rg.Any.takeB (i:=13) (t:=9) (u:=18) (v:=.int .i64 ((kb:Nat):Int)) (some 85) rfl rfl (by kernel_rfl) (by kernel_rfl) (by kernel_rfl) (fun _ _ _ h=>h) rfl rfl (by kernel_rfl) rfl (Rg.yc ⟨bb,2,none⟩ (fun W hW=>run_loadInt hW.1)) (hS _) ?_;go_frame;refine Rg.Any.takeP (i:=14) (t:=9) (u:=18) (v:=.pointer (some ⟨ba,0,none⟩)) (some 86) rfl rfl (by kernel_rfl) (by kernel_rfl) (by kernel_rfl) (fun _ _ _ h=>h) rfl rfl (.inl ⟨rfl,fun w _=>Rg.exec_move (v:=.pointer (some ⟨ba,0,none⟩)) _ rfl rfl⟩) (hS _) ?_;go_frame;refine Rg.Any.takeP (i:=15) (t:=9) (u:=18) (v:=.pointer (some ⟨ba,0,none⟩)) (some 87) rfl rfl (by kernel_rfl) (by kernel_rfl) (by kernel_rfl) (fun _ _ _ h=>h) rfl rfl (.inl ⟨rfl,fun w _=>exec_nil _ rfl rfl⟩) (hS _) ?_;go_frame
       refine Rg.Any.takeP (i:=16) (t:=9) (u:=18) (v:=.pointer (some ⟨ba,2,none⟩)) (some 88) rfl rfl (by kernel_rfl) (by kernel_rfl) (by kernel_rfl) (fun _ _ _ h=>h) rfl rfl (.inl ⟨rfl,fun w _=>exec_field _ rfl rfl (enF2 _ _)⟩) (hS _) ?_;go_frame;refine Rg.Any.takeB (i:=17) (t:=9) (u:=18) (v:=.int .i64 ((ka:Nat):Int)) (some 89) rfl rfl (by kernel_rfl) (by kernel_rfl) (by kernel_rfl) (fun _ _ _ h=>h) rfl rfl (by kernel_rfl) rfl (Rg.yc ⟨ba,2,none⟩ (fun W hW=>run_loadInt hW.2)) (hS _) ?_;go_frame;refine duo2 (i:=9) (j:=18) (di:=81) (dj:=90) (I:=fun W=>Below w124.heap.size w124 W) (R1:=fun u W=>Rg.NPF w124 W u (Ma.mulN xb xa)) (R2:=fun v W=>v=.slice (some ⟨w124.heap.size,0,none⟩) 2 2∧W=w124.alloc (.cells #[.int .i64 ((kb:Nat):Int),.int .i64 ((ka:Nat):Int)] 3)) (R:=fun u v W=>NewPI FVq w124 (Ma.mulN xb xa) ((kb:Nat):Int) ((ka:Nat):Int) u v W) hSB (by decide) (by decide) (by kernel_rfl) (by kernel_rfl) (by kernel_rfl) ?_ ?_ ?_ ?_ ?_
       ·refine dCall rfl rfl rfl _ _ (exec_fn 44 _ _ _ rfl rfl rfl (Bgcl6 _ _)) ?_
        refine (fcMul_any _ _ xb xa w124 XA.out.np XB.out.np (fun q hq=>by rw [GXB.out.2]; exact gd_mem GXA.out hq) (by rw [GXA.out.2]; omega) (by rw [GXA.out.2]; exact hn1) (by rw [GXB.out.2]; exact hn1)).mono ?_;rintro e1 W ⟨u,rfl,hu,hb⟩;exact ⟨u,rfl,hb,hu⟩
       ·intro u W hI hu
        have hn:Below W.heap.size W (W.alloc (.cells #[.int .i64 ((kb:Nat):Int),.int .i64 ((ka:Nat):Int)] 3)):=(Below.refl _ _).alloc (Nat.le_refl _) _;exact dRun rfl rfl rfl (exec_buildSlice2 _ _ _ _ rfl rfl rfl (run_build2N W _ _)) (Rg.acc hI hn) (NewPI.one hu.1 hu.2 (by rw [Ma.len_mulN,GXA.out.2]; exact hn1) hI _ _)
       ·have hn:Below w124.heap.size w124 (w124.alloc (.cells #[.int .i64 ((kb:Nat):Int),.int .i64 ((ka:Nat):Int)] 3)):=(Below.refl _ _).alloc (Nat.le_refl _) _
        exact dRun rfl rfl rfl (exec_buildSlice2 _ _ _ _ rfl rfl rfl (run_build2N w124 _ _)) hn ⟨rfl,rfl⟩
       ·rintro v W hI ⟨rfl,rfl⟩
        refine dCall rfl rfl rfl _ _ (exec_fn 44 _ _ _ rfl rfl rfl (Bgcl6 _ _)) ?_;refine (fcMul_any _ _ xb xa _ (Rg.NP.below XA.out.np hI) (Rg.NP.below XB.out.np hI) (fun q hq=>by rw [GXB.out.2]; exact gd_mem GXA.out hq) (by rw [GXA.out.2]; omega) (by rw [GXA.out.2]; exact hn1) (by rw [GXB.out.2]; exact hn1)).mono ?_;rintro e1 W ⟨u,rfl,hu,hb⟩;exact ⟨u,rfl,Rg.acc hI hb,NewPI.two _ _ hu (by rw [Ma.len_mulN,GXA.out.2]; exact hn1) hb⟩
       rintro W8 u8 v8 hI hnw;have TM8:=ι (NewPI.tm TM.out hI hnw);have RW8:=ι (hnw.rw hI TM.out.Flt TM.out.Mlt)
       have K8:=ι (K.out.grow (P:=fun k=>v8.ownBlock=some k) (Q:=fun k=>u8.ownBlock=some k) hI hnw.1 (fun k e=>by
        obtain ⟨_,_,g,rfl,hg,_,_⟩:=hnw
        exact Nat.le_trans hg (own_eq e)))
       have X8:=ι hnw.2.1;clear hnw TM K EA EB AA AB XA XB hS;go_frame;have hS8:=hSB;refine Rg.Any.one (i:=19) (by kernel_rfl) (Rg.Any.ask (some 91) rfl rfl rfl _ _ (exec_fn3 91 _ _ _ _ rfl rfl rfl rfl (Dicl0 _ _)) ?_)
       refine (insert_t (parts:=[kb,ka]) HG.out FL.out.tb TM8.out hn1 hn2 X8.out HGR.out RW8.out ⟨Nat.le_succ _,Nat.le_refl _⟩ (fun q hq=>by
        rcases List.mem_cons.1 hq with hq | hq
        ·exact ⟨_,by rw [hq]; exact HTA.out⟩
        ·rw [List.mem_singleton] at hq; exact ⟨_,by rw [hq]; exact HTB.out⟩) (by show Ma.mulN (T9p.getD kb []) (T9p.getD ka [])=_; rw [List.getD_eq_getElem?_getD,List.getD_eq_getElem?_getD,HTA.out,HTB.out]; rfl) HTL.out.1).mono ?_
       rintro e1 W9q ⟨F9q,sv9q,lv9q,S9q,T9q,es9q,rfl,hin9,hT9,hg9⟩;refine ⟨_,rfl,⟨.inl rfl,.inl rfl⟩,?_⟩;go_frame;refine Rg.Any.done (by kernel_rfl) ?_ _;have FL9:=ι (FL.out.ins hin9);have HSA9:=ι (show ∀ s,s∈gs→Cm.Sd N (Cm.idT N (trE es9q)) N s from fun s hs=>Cm.Sd.mono (fun a b u _=>hin9.mono a b u) (HSA.out s hs));have TM9:=ι hT9;have K9:=ι (K8.out.trans hg9);have MA9:=ι (hin9.mem MA.out);have MB9:=ι (hin9.mem MB.out);have HLE9:=ι hin9.len;have HPR:=ι (hin9.pr HXB.out HXA.out rfl);have HPP:=ι (hin9.pp HP.out HIL.out HKI.out)
       have HXA9:=ι (show (es9q.map (·.x))[i]?=some xa by
        obtain ⟨m,hm⟩:=hin9.xs
        rw [hm,List.getElem?_append_left (List.getElem?_eq_some_iff.1 HXA.out).1]; exact HXA.out)
       have HXB9:=ι (show (es9q.map (·.x))[k]?=some xb by
        obtain ⟨m,hm⟩:=hin9.xs
        rw [hm,List.getElem?_append_left (List.getElem?_eq_some_iff.1 HXB.out).1]; exact HXB.out)
       have HTL9:=ι (FL9.out.tl hn2 hgl);have HIL9:=ι (show i<es9q.length by have:=HLE9.out; have:=HIL.out; omega);clear hT9 hg9 hin9 FL HSA TM8 K8 RW8 X8 MA MB HXA HXB HTL HIL HP hI hSB hS8 GXA GXB HTA HTB HGR HLE9;have HPN:=ι (HPP.out.step1 HPR.out).next
       have hk256:k<256:=by have:=HKI.out; have:=HI256.out; omega
       go_upto_region 11 with (fail);refine Rg.wl ?_;refine Rg.lm 36 (.int .i64 ((k:Nat):Int)) ?_;go_frame;refine Rg.lr 37 (Rg.bn (.int .i64 (((k+1):Nat):Int)) .add (h:=b_add _ (by omega) (by omega))) ?_;go_frame;refine Rg.la 7 (.int .i64 (((k+1):Nat):Int)) ?_;go_frame;go_wp2
       go_roundw
       case rel=>exact ⟨k+1,_,_,_,_,_,_,by go_num,Nat.succ_le_succ HKI.out,HIL9.out,FL9,HSA9,HPN,TM9,K9⟩
       case measure=>simp [intOf]; have:=HKI.out; have:=HI256.out; omega
end Go.Proofs.YtdnmmibchbceeaaGreat
