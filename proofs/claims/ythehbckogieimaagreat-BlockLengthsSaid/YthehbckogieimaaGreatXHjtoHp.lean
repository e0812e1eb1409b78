/- Lemmas and contracts on the way to the statement; no condition of their own beyond those written. -/
import Derived.Test.YthehbckogieimaaGreatXFbtoGb
import Derived.Deep.MidRow
import Derived.Deep.WholeRow
import Derived.Laws.CopyOwn
import Derived.RangeFuncWrites
import Derived.RangeFuncNested
import Derived.RangeFuncBox
import Derived.RangeFuncLeaves
import Derived.Shelf.Abstract
import Derived.OwnWalkIn
import Derived.TacticsInMore
import Derived.LoopNIn
import Derived.LoopIn
import Derived.Maps.AppendAt
import Derived.Sort.CutIn
import Derived.Deep.CutRange
import Derived.Deep.CutBlock
import Derived.IntWalk
import Derived.Great.BuildSlice
import Derived.ArgAppend
import Derived.StillTailTactics
import Derived.WalkSpells
import Derived.WalkLawsBesides
import Derived.OwnWalk
import Derived.OrdersHeld
import Derived.Deep.OwnRows
import Derived.WalkKit
import Derived.Lib.Hide
import Derived.Laws.OwnMore
import Derived.Test.YthehbckogieimaaGreatProg
import Derived.Outline
import Derived.Deep.DeepFit
import Derived.BigQuiet
import Derived.Deep.QuietTactic
import Derived.Sort.OwnSortedInts
import Derived.WideMake
import Derived.MapKept
import Derived.ChangeMaps5
import Derived.Shelf.Sort.Plain
import Derived.Lib.ConvBytes
import Derived.ChangeKeysEq
import Derived.Laws.Cells
import Derived.Laws.Rows
import Derived.Laws.Tables
import Derived.OrdersIn
import Derived.TacticsIn
import Derived.Deep.LoopGhost
import Derived.Lib.SlicesSearch
import Derived.Stop.BytesEq
import Derived.Shelf.SlSortCmp.Whole1
import Derived.Ground.SlsfProg
set_option linter.unusedVariables false
set_option linter.unusedSimpArgs false
set_option maxRecDepth 100000
set_option maxHeartbeats 8000000
namespace Go.Proofs.YthehbckogieimaaGreat
open Go.RowKit
open Go.Proofs
open Go.Proofs.Ob
open Go.Proofs.Cm (Gd)
attribute [local irreducible] Go.Calls Go.wpList
theorem Hjcl0 (args:Array Value) (w:World):(callFunc 166 args).run Tryz.prog w=.ok (.enter 166 args) w:=by kernel_rfl
theorem Hjcl2 (args:Array Value) (w:World):(callFunc 171 args).run Tryz.prog w=.ok (.enter 171 args) w:=by kernel_rfl
theorem bpacked_any (v:Value) (p:List Nat) (w:World) (h:Rg.NP w v p) (h2:p.length≤64) (h3:∀ x∈p,x<256) :
  Calls Tryz.prog 88 #[v] w fun e w'=>e=.returned (.agg (keyC p))∧Below w.heap.size w w':=by
 obtain ⟨a,cap,rfl,hc,hm,_,hcell⟩:=h.shape;have Hr:=ι hcell;clear hcell h
 have hz:∀ (w1:World) (cs:Array Value),cs=Array.replicate 64 (.int .u8 0)→(w1.alloc (.cells cs 105)).rowIs w1.heap.size 105 64 (fun j=>.int .u8 (if j<0 then (p.getD j 0:Nat) else 0)):=by
  rintro w1 cs rfl;have:=World.rowIs_alloc w1 (Array.replicate 64 (.int .u8 0)) 105 (fun j=>.int .u8 (if j<0 then (p.getD j 0:Nat) else 0)) (fun i hi=>by simp at hi; simp [hi])
  simpa using this
 have HZ:=ι hz;clear hz
 go_enter Tryz.func88,Tryz.ntmps88
 go_wp2
 have hzz:w.heap.size+1=(w.alloc (.cells (Array.replicate 64 (.int .u8 0)) 105)).heap.size:=by simp
 go_loopw [8] (fun i wr=>∃ k:Nat,k≤p.length∧i=.int .i64 k∧Hid (wr.rowIs w.heap.size 105 64 (fun j=>.int .u8 (if j<0 then (p.getD j 0:Nat) else 0)))∧Hid (wr.rowIs (w.heap.size+1) 105 64 (fun j=>.int .u8 (if j<k then (p.getD j 0:Nat) else 0)))∧Hid (Below w.heap.size w wr)) (fun i _=>p.length - (intOf i).toNat)
 case atStart=>exact ⟨0,by omega,rfl,(HZ.out _ _ rfl).alloc _,by rw [hzz]; exact HZ.out _ _ rfl,((Below.refl _ _).alloc (Nat.le_refl _) _).alloc (by simp) _⟩
 case round =>
  obtain ⟨k,hk,rfl,hs0,hs,hbel⟩:=hrel;clear hzz
  by_cases hlt:k<p.length
  ·obtain ⟨b,o,rfl,hb,hr⟩:=Hr.out (by omega)
   have e0:wr.cell? ⟨b,o+k,none⟩=some (.int .i64 ((p[k]:Nat):Int)):=(hbel.out.cell (p:=⟨b,o+k,none⟩) hb).trans (hr k hlt);have hx:=h3 _ (List.getElem_mem hlt);have hg:=Ma.getD_lt hlt;generalize p[k]=x at e0 hx hg;have Hg:=ι hg;clear hg hr;have c1:=hs.out.cell (i:=k) (by omega);have f1:=hs.out.frozen k;generalize (Value.int .u8 (if k<k then ((p.getD k 0:Nat):Int) else 0))=u0 at c1;go_wp2
   go_roundw
   case rel =>
    refine ⟨k+1,by omega,by go_num,hs0.out.setOther (by simp) _,?_,hbel.out.setCell (by simp) _⟩;refine (hs.out.set k _).congr fun i hi=>?_
    by_cases e:i=k
    ·subst e; rw [if_pos rfl,if_pos (by omega),Hg.out] <;> rfl
    ·rw [if_neg e]
     by_cases e2:i<k
     ·rw [if_pos e2,if_pos (by omega)]
     ·rw [if_neg e2,if_neg (by omega)]
   case measure=>simp [intOf]; omega
  ·obtain rfl:k=p.length:=by omega
   have HK:=ι (keyRow (p:=p) hs.out (fun i hi=>by
    unfold keyF
    by_cases e:i<p.length
    ·rw [if_pos e]
    ·rw [if_neg e,List.getD_eq_getElem?_getD,List.getElem?_eq_none (by omega)]; rfl))
   obtain ⟨Z,hZ,hZs,_⟩:=hs0.out;have HZ2:=ι hZ;clear hZ
   go_wp2_with (first | (with_reducible refine wpList_load_row rfl 105 _ rfl (w.heap.size+1) rfl _ _ _ _ HK.out Tryz.underlying105 rfl (by rw [size_keyC]; exact infoKey) ?_) | (with_reducible refine wpList_store_row rfl 105 _ _ rfl w.heap.size (keyC p) rfl rfl _ _ HZ2.out (by rw [size_keyC]; exact infoKey) (by rw [size_keyC]; exact hZs) (one_keyC p) ?_))
   exact bodyPost_ret (v:=.agg (keyC p)) (results_cell_row rfl _ _ w.heap.size _ (keyC p) _ _ rfl (setRow_heap _ _ _ _ _ _ HZ2.out) Tryz.underlying105 rfl (by rw [size_keyC]; exact infoKey)) rfl ⟨rfl,below_setRow hbel.out (Nat.le_refl _) _⟩
theorem LbR.fp {w w':World} {v:Value} {n:Nat} {L:List Nat} (h:LbR w w' v n L) (hn:n≤1000) {F:Nat→Prop}:FP (Fup F w w') w' v L:=by
 obtain ⟨ob,rfl,h1,h2,h3⟩:=h.sh;exact Rg.FVals.of (h.ints hn) (fun k e=>by simp [Value.ownBlock] at e; exact .inr ⟨e▸h1,e▸h2⟩)
theorem LbR.after {w0 w w':World} {v:Value} {n:Nat} {L:List Nat} (h:LbR w w' v n L) (hb:Below w0.heap.size w0 w):LbR w0 w' v n L:=by
 obtain ⟨ob,h0,h1,h2,h3⟩:=h.sh;exact ⟨⟨ob,h0,Nat.le_trans hb.size h1,h2,h3⟩,h.len,hb.trans (h.bel.mono hb.size)⟩
theorem LbR.shape {w w':World} {v:Value} {n:Nat} {L:List Nat} (h:LbR w w' v n L):∃ ob,v=.slice (some ⟨ob,0,none⟩) n n:=by
 obtain ⟨ob,h0,_⟩:=h.sh;exact ⟨ob,h0⟩
def trn (gs:List (List Nat)) (D:Nat):Bool:=decide ((tree gs D 0).length=D)
theorem btrans_any (gv:Value) (D:Nat) (gs:List (List Nat)) (w:World) (hz:Ma.gchk ((D:Nat):Int) (gs.map Ma.ofN)=0) (h:Rg.Rows w gv (gs.map Ma.ofN)) :
  Calls Tryz.prog 86 #[.agg #[.int .i64 ((D:Nat):Int),gv]] w fun e w'=>e=.returned (.bool (trn gs D))∧Below w.heap.size w w':=by
 have hD:1≤D∧D≤64:=by
  obtain ⟨D',_,e,_,_,h1,h2,_⟩:=gchk_ok hz;omega
 have HPT:=ι (ptE_good (p:=0) hz (by omega));have HOR:=ι (orbS_ok HPT.out);obtain ⟨t,ht⟩:∃ t,Hid ((tree gs D 0).length=t):=⟨_,ι rfl⟩;obtain ⟨b,hb⟩:∃ b,Hid (trn gs D=b):=⟨_,ι rfl⟩;have HB:=ι (show decide (((t:Nat):Int)=((D:Nat):Int))=b by rw [← hb.out,trn,ht.out]; exact decide_eq_decide.2 (by omega));rw [hb.out];obtain ⟨ga,gc,rfl,hga,hba⟩:=GI.enter ((D:Nat):Int) h;have K:=ι hba;have G0:=ι hga;clear h hga hba hz
 go_enter Tryz.func86,Tryz.ntmps86
 go_upto_region 0 with (fail);refine wp_region_list ?_;refine Rg.lr 1 (Rg.exec_box _ _ rfl rfl) ?_;go_frame;refine Rg.la 2 (.bool false) ?_;go_frame;generalize w.alloc (.cells #[.int .i64 ((D:Nat):Int),.slice ga (gs.map Ma.ofN).length gc] 24)=w0 at *;go_upto_region 1 with (fail);refine wp_region_list ?_;refine Rg.lr 6 (Rg.exec_load (v:=.agg #[.int .i64 ((D:Nat):Int),.slice ga (gs.map Ma.ofN).length gc]) _ _ rfl ⟨w.heap.size,0,none⟩ rfl (run_loadG G0.out.c0 G0.out.c1)) ?_;go_frame;refine list_ask (some 7) rfl rfl _ _ (exec_fn 166 _ _ _ rfl rfl rfl (Hjcl0 _ _)) ?_;refine (Orbit_any _ ((D:Nat):Int) (gs.map Ma.ofN) (((0:Nat):Nat):Int) w0 G0.out.rows).mono ?_;rintro e1 w1 ⟨ov,rfl,how,hb⟩;rw [HOR.out] at how ⊢;obtain ⟨oa,oc,hsh,-⟩:=how.shape;rw [asc_length,Ma.len_ofN,len_pts,ht.out] at hsh;subst hsh;clear how;refine ⟨_,rfl,?_⟩;go_frame;replace G0:=ι (G0.out.below hb)
 replace K:=ι (Rg.acc K.out hb);clear hb;refine Rg.lm 5 (.tuple #[.slice oa t oc,.int .i64 ((0:Nat):Int)]) ?_;go_frame;refine Rg.lr 8 (exec_extract (v:=.slice oa t oc) _ _ rfl rfl rfl) ?_;go_frame;refine Rg.lr 9 (exec_extract (v:=.int .i64 ((0:Nat):Int)) _ _ rfl rfl rfl) ?_;go_frame;refine Rg.la 3 (.slice oa t oc) ?_;go_frame;refine Rg.la 4 (.int .i64 ((0:Nat):Int)) ?_;go_frame;go_upto_region 2 with (fail);refine wp_region_list ?_;refine Rg.lm 10 (.slice oa t oc) ?_;go_frame;refine Rg.lr 11 (exec_len _ _ _ rfl Tryz.underlying36 _ _ _ rfl) ?_;go_frame;refine Rg.lr 12 (exec_fieldG0 _ rfl rfl) ?_;go_frame;refine Rg.lr 13 (Rg.exec_load (v:=.int .i64 ((D:Nat):Int)) _ _ rfl ⟨w.heap.size,0,none⟩ rfl (run_loadInt G0.out.c0)) ?_;go_frame;refine Rg.lr 14 (exec_bin (R:=.bool b) .eql _ _ _ rfl rfl rfl (b_eql _ HB.out)) ?_;go_frame;refine Rg.la 2 (.bool b) ?_;go_frame;go_wp2
 go_ret;exact ⟨rfl,K.out⟩
def prL (l:List Nat) (k:Nat):List (Nat × Nat):=(List.range k).map fun i=>(l.idxOf (l.getD i 0),i)
theorem prL_snoc (l:List Nat) (k:Nat):prL l (k+1)=prL l k++[(l.idxOf (l.getD k 0),k)]:=by unfold prL; rw [List.range_succ,List.map_append]; rfl
theorem getN_at {l:List Nat} {i:Nat} (h:i<l.length):l.getD i 0=l[i]:=Bk.getD_lt h
theorem idx_first {l:List Nat} {i k:Nat} (hi:i<l.length) (hk:k<l.length) (e:l.getD k 0=l.getD i 0) (hn:∀ j,j<k→l.getD j 0≠l.getD i 0):l.idxOf (l.getD i 0)=k:=by
 have h1:l.idxOf (l.getD i 0)<l.length:=List.idxOf_lt_length_of_mem (by rw [getN_at hi]; exact List.getElem_mem hi)
 have h2:l.getD (l.idxOf (l.getD i 0)) 0=l.getD i 0:=by rw [getN_at h1]; exact List.getElem_idxOf h1
 rcases Nat.lt_trichotomy (l.idxOf (l.getD i 0)) k with h | h | h
 ·exact absurd h2 (hn _ h)
 ·exact h
 ·exfalso
  have:=List.not_of_lt_findIdx (p:=(· == l.getD i 0)) (xs:=l) (i:=k) h;rw [getN_at hk] at e;exact beq_eq_false_iff_ne.1 this e
theorem prL_rng {l:List Nat} {n:Nat} (hl:l.length=n):∀ z∈prL l n,z.1<n∧z.2<n:=fun z hz=>by
 obtain ⟨i,hi,rfl⟩:=List.mem_map.1 hz;have hi:=List.mem_range.1 hi;refine ⟨?_,hi⟩;rw [← hl];exact List.idxOf_lt_length_of_mem (by rw [getN_at (by omega)]; exact List.getElem_mem _)
theorem prL_br {m:Nat} {f:Nat→Nat→Nat} {x y:List Nat} {n:Nat} (hx:x.length=n) (hy:y.length=n):Bk.BR m f (inT (prL x n++prL y n))=Bk.BR m f (Bk.both n x y):=by
 have key:∀ l:List Nat,l.length=n→∀ a b,(a,b)∈prL l n→Bk.ker l a b∧a<n∧b<n:=fun l hl a b h=>by
  have h1:=prL_rng hl _ h;obtain ⟨i,hi,e⟩:=List.mem_map.1 h
  injection e with e1 e2
  subst e2;refine ⟨?_,h1⟩;unfold Bk.ker
  have h2:l.idxOf (l.getD i 0)<l.length:=by rw [e1]; omega
  rw [← e1,getN_at h2];exact List.getElem_idxOf h2
 have back:∀ l:List Nat,l.length=n→(∀ a b,(a,b)∈prL l n→(a,b)∈prL x n++prL y n)→∀ a b,a<n→b<n→Bk.ker l a b→Bk.BR m f (inT (prL x n++prL y n)) a b:=fun l hl hm a b ha hb h=>by
  have h1:Bk.BR m f (inT (prL x n++prL y n)) (l.idxOf (l.getD a 0)) a:=.base (hm _ _ (List.mem_map.2 ⟨a,List.mem_range.2 ha,rfl⟩));have h2:Bk.BR m f (inT (prL x n++prL y n)) (l.idxOf (l.getD b 0)) b:=.base (hm _ _ (List.mem_map.2 ⟨b,List.mem_range.2 hb,rfl⟩));unfold Bk.ker at h;rw [← h] at h2;exact .trans (.symm h1) h2
 refine Bk.BR.iff (fun a b h=>?_) (fun a b h=>?_)
 ·rcases List.mem_append.1 (show (a,b)∈prL x n++prL y n from h) with h | h
  ·obtain ⟨h1,h2⟩:=key x hx a b h
   exact .base ⟨h2,.inl h1⟩
  ·obtain ⟨h1,h2⟩:=key y hy a b h
   exact .base ⟨h2,.inr h1⟩
 ·obtain ⟨⟨h1,h2⟩,h3 | h3⟩:=h
  ·exact back x hx (fun _ _ h=>List.mem_append_left _ h) a b h1 h2 h3
  ·exact back y hy (fun _ _ h=>List.mem_append_right _ h) a b h1 h2 h3
theorem index_n (v:Value) (l:List Nat) (i:Nat) (w:World) (h:Rg.NP w v l) (hl:l.length≤1000) (hi:i<l.length) :
  Calls Tryz.prog 171 #[v,.int .i64 ((l.getD i 0:Nat):Int)] w fun e w'=>e=.returned (.int .i64 ((l.idxOf (l.getD i 0):Nat):Int))∧Below w.heap.size w w':=by
 refine (index_in v (Ma.ofN l) _ w h (by rw [Ma.len_ofN]; exact hl) (List.mem_map.2 ⟨_,List.getElem_mem hi,by rw [getN_at hi]⟩)).mono ?_;rintro e w' ⟨k,hk,rfl,h1,h2,hb⟩;rw [Ma.len_ofN] at hk
 have key:∀ j,j<l.length→(Ma.ofN l).getD j 0=((l.getD j 0:Nat):Int):=fun j hj=>by rw [getI_at (by rw [Ma.len_ofN]; exact hj),Ma.get_ofN,getN_at hj]
 rw [key k hk] at h1;rw [idx_first hi hk (by omega) (fun j hj e=>h2 j hj (by rw [key j (by omega),e]))];exact ⟨rfl,hb⟩
structure JdM (w W:World) (v:Value) (T:List (Nat × Nat)):Prop where
 bel:Below w.heap.size w W
 t:Own2 w.heap.size W v T
theorem JdM.below {w W W':World} {v:Value} {T:List (Nat × Nat)} (h:JdM w W v T) (hb:Below W.heap.size W W'):JdM w W' v T:=⟨h.bel.trans (hb.mono h.bel.size),h.t.below hb⟩
theorem JdM.push {w W:World} {v:Value} {T:List (Nat × Nat)} (h:JdM w W v T) (z:Nat × Nat) (hn:T.length<1000000) (ty:TypeId) :
  ∃ a c X,(Builtin.append_ #[176,176] ty #[v,.slice (some ⟨W.heap.size,0,none⟩) 1 1]).run Tryz.prog (W.alloc (.cells #[.int .i64 ((z.1:Nat):Int),.int .i64 ((z.2:Nat):Int)] 108))=.ok (.slice a (T.length+1) c) X∧JdM w X (.slice a (T.length+1) c) (T++[z]):=by
 obtain ⟨a,c,X,r1,r2,r3,r4⟩:=h.t.push h.bel.size z hn ty;exact ⟨a,c,X,r1,Rg.Kp.below h.bel r3 (fun k e=>(h.t.lt k e).1),r2⟩
theorem run_build2L (X:World) (u1 u2:Value) (h1:∃ a n c,u1=.slice a n c) (h2:∃ a n c,u2=.slice a n c):(Instr.buildSlice 27 2 #[(0,u1),(1,u2)]).run Tryz.prog X=.ok (.slice (some ⟨X.heap.size,0,none⟩) 2 2) (X.alloc (.cells #[u1,u2] 36)):=by
 obtain ⟨i0,hi,hz0,hz1,hz2⟩:=info_parts infoIntsV;obtain ⟨_,_,_,rfl⟩:=h1;obtain ⟨_,_,_,rfl⟩:=h2;refine run_buildSlice X 27 36 2 _ _ i0 _ Tryz.underlying27 hi hz0 (by rw [hz1]; decide) (by rw [hz1]; decide) ?_;generalize (fun x=>((Value.slice none 0 0).cells)[x % (Value.slice none 0 0).cells.size]!)=f;rw [hz1];have h1:Array.range (2*1)=#[0,1]:=rfl;simp [Instr.fill,Value.cells,h1]
theorem exec_build2L {o:Oper} {a:Act} {w w':World} {v u1 u2:Value} (x1 x2:Operand) (ho:o.op=.buildSlice 27 2 #[(0,x1),(1,x2)]) (h1:a.eval x1=u1) (h2:a.eval x2=u2)
  (hr:(Instr.buildSlice 27 2 #[(0,u1),(1,u2)]).run Tryz.prog w=.ok v w'):(execOp a.eval o).run Tryz.prog w=.ok (.value v) w':=by
 subst h1 h2;unfold execOp;simp only [ho,Sem.run_bind,Sem.run_pure];simp only [List.map_toArray,List.map_cons,List.map_nil];rw [hr];rfl
def prJ (x y:List Nat) (n a i:Nat):List (Nat × Nat):=if a=0 then prL x i else prL x n++prL y i
theorem prJ_next (x y:List Nat) (n:Nat):prJ x y n 1 0=prJ x y n 0 n:=by unfold prJ; rw [if_neg (by omega),if_pos rfl]; show prL x n++[]=_; rw [List.append_nil]
theorem prJ_snoc (x y:List Nat) (n a i:Nat) (ha:a<2):prJ x y n a (i+1)=prJ x y n a i++[(([x,y].getD a []).idxOf (([x,y].getD a []).getD i 0),i)]:=by
 unfold prJ
 match a,ha with
 | 0,_=>rw [if_pos rfl,if_pos rfl,prL_snoc]; rfl
 | 1,_=>rw [if_neg (by omega),if_neg (by omega),prL_snoc,List.append_assoc]; rfl
theorem prJ_len (x y:List Nat) (n a i:Nat):(prJ x y n a i).length≤n+i:=by
 unfold prJ prL
 split <;> simp
theorem bjoined_any (n:Nat) (gv xv yv:Value) (gs:List (List Nat)) (x y:List Nat) (w:World) (hn1:1≤n) (hn:n≤64) (hg:Rg.Rows w gv (gs.map Ma.ofN)) (hgg:GG n gs) (hgl:gs.length≤1000) (hx:Rg.NP w xv x) (hy:Rg.NP w yv y) (hxl:x.length=n) (hyl:y.length=n) :
  Calls Tryz.prog 89 #[.agg #[.int .i64 ((n:Nat):Int),gv],xv,yv] w fun e w'=>∃ v L,e=.returned v∧LbR w w' v n L∧Bk.IsLab n (Bk.BR gs.length (img gs) (Bk.both n x y)) L:=by
 obtain ⟨xa,xc,hxs,-,-,-,hxx⟩:=Rg.NP.shape hx;rw [hxl] at hxs;subst hxs;obtain ⟨ya,yc,hys,-,-,-,hyx⟩:=Rg.NP.shape hy;rw [hyl] at hys;subst hys
 have HV:=ι (show ∀ a (h:a<2),∃ va vc,[(xa,xc),(ya,yc)].getD a (none,0)=(va,vc)∧Rg.NP w (.slice va n vc) ([x,y].getD a []) from fun a ha=>by
  match a,ha with
  | 0,_=>exact ⟨xa,xc,rfl,hx⟩
  | 1,_=>exact ⟨ya,yc,rfl,hy⟩)
 have HLN:=ι (show ∀ a,a<2→([x,y].getD a []).length=n from fun a ha=>by
  match a,ha with
  | 0,_=>exact hxl
  | 1,_=>exact hyl)
 clear hxx hyx;have HXL:=ι hxl;have HYL:=ι hyl;clear hx hy hxl hyl;have HGG:=ι hgg;have HG:=ι hg;obtain ⟨ga,gc,rfl,hga,hba⟩:=GI.enter ((n:Nat):Int) hg;have K:=ι hba;have G0:=ι hga;clear hg hga hba hgg
 go_enter Tryz.func89,Tryz.ntmps89
 go_upto_region 0 with (fail);refine wp_region_list ?_;refine Rg.lr 3 (Rg.exec_box _ _ rfl rfl) ?_;go_frame;refine Rg.la 6 (.slice none 0 0) ?_;go_frame;obtain ⟨gb,hgb⟩:∃ gb,w.heap.size=gb:=⟨_,rfl⟩;have HGB:=ι hgb;rw [hgb] at G0 ⊢;clear hgb;generalize w.alloc (.cells #[.int .i64 ((n:Nat):Int),.slice ga (gs.map Ma.ofN).length gc] 24)=w0 at *;go_upto_region 1 with (fail);refine wp_region_list ?_;refine Rg.la 7 (.slice none 0 0) ?_;go_frame;have hb1:=(Below.refl w0.heap.size w0).alloc (Nat.le_refl _) (.cells #[.slice xa n xc,.slice ya n yc] 36)
 have hcx:(w0.alloc (.cells #[.slice xa n xc,.slice ya n yc] 36)).cell? ⟨w0.heap.size,0,none⟩=some (.slice xa n xc):=by rw [Rg.cellNew]; rfl
 have hcy:(w0.alloc (.cells #[.slice xa n xc,.slice ya n yc] 36)).cell? ⟨w0.heap.size,1,none⟩=some (.slice ya n yc):=by rw [Rg.cellNew]; rfl
 have hl1:w0.heap.size<(w0.alloc (.cells #[.slice xa n xc,.slice ya n yc] 36)).heap.size:=by simp
 go_upto_region 2 with (fail);refine wp_region_list ?_;refine Rg.lm 11 (.slice xa n xc) ?_;go_frame;refine Rg.lm 12 (.slice ya n yc) ?_;go_frame;refine Rg.lr 13 (exec_build2L (u1:=.slice xa n xc) (u2:=.slice ya n yc) _ _ rfl rfl rfl (run_build2L w0 _ _ ⟨_,_,_,rfl⟩ ⟨_,_,_,rfl⟩)) ?_;go_frame;refine Rg.lr 14 (exec_len _ _ _ rfl Tryz.underlying27 _ _ _ rfl) ?_;go_frame;refine Rg.lm 15 (.int .i64 ((0:Nat):Int)) ?_;go_frame;obtain ⟨pb,hpb⟩:∃ pb,w0.heap.size=pb:=⟨_,rfl⟩;replace G0:=ι (G0.out.below hb1);replace K:=ι (Rg.acc K.out hb1);generalize w0.alloc (.cells #[.slice xa n xc,.slice ya n yc] 36)=w1 at *;rw [hpb] at hcx hcy hl1 ⊢
 have HCP:=ι (show ∀ a,a<2→∀ va vc,[(xa,xc),(ya,yc)].getD a (none,0)=(va,vc)→CL w1 pb (0+a) (.slice va n vc) from fun a ha va vc e=>by
  match a,ha with
  | 0,_=>injection e with e1 e2; subst e1 e2; exact ⟨hcx,hl1⟩
  | 1,_=>injection e with e1 e2; subst e1 e2; exact ⟨hcy,hl1⟩)
 have HWB:=ι K.out;have JM:=ι (show JdM w1 w1 (.slice none 0 0) (prJ x y n 0 0) from ⟨Below.refl _ _,Own2.nil _ _⟩);clear hb1 hcx hcy hl1 hpb;go_wp2
 go_loopw [7,15] (fun tv av wr=>∃ (a:Nat) (TT:List (Nat × Nat)),av=.int .i64 ((a:Nat):Int)∧a≤2∧Hid ((if a=2 then prJ x y n 1 n else prJ x y n a 0)=TT)∧Hid (JdM w1 wr tv TT)) (fun _ av _=>2 - (intOf av).toNat)
 case atStart=>exact ⟨0,_,rfl,by decide,ι rfl,JM⟩
 case round =>
  clear JM;obtain ⟨a,TT,rfl,ha,hTT,JM⟩:=hrel;obtain ⟨ta,tc,rfl,-⟩:=JM.out.t.shape;generalize wr=wd at *
  have HTL:=ι (show TT.length≤2*n by
   rw [← hTT.out]
   split
   ·have:=prJ_len x y n 1 n; omega
   ·have:=prJ_len x y n a 0; omega)
  by_cases ha2:a<2
  case neg =>
   obtain rfl:a=2:=by omega
   have HT2:=ι (show prL x n++prL y n=TT by rw [← hTT.out,if_pos rfl]; rfl)
   have HRG:=ι (show ∀ z∈TT,z.1<n∧z.2<n from fun z hz=>by
    rw [← HT2.out] at hz
    rcases List.mem_append.1 hz with h | h
    ·exact prL_rng HXL.out z h
    ·exact prL_rng HYL.out z h)
   have hTb:TT.length≤128:=by have:=HTL.out; omega
   have PR:=ι (JM.out.t.prs (by omega));have GD:=ι (G0.out.below JM.out.bel);have KD:=ι (Rg.acc HWB.out JM.out.bel);go_upto_region 3 with (fail);refine wp_region_list ?_;refine Rg.lr 16 (exec_bin (R:=.bool false) .lss _ _ _ rfl rfl rfl (b_lss _ (decide_eq_false (by omega)))) ?_;go_frame;go_upto_region 11 with (fail);refine wp_region_list ?_;refine Rg.lr 37 (Rg.exec_load (v:=.agg #[.int .i64 ((n:Nat):Int),.slice ga (gs.map Ma.ofN).length gc]) _ _ rfl ⟨gb,0,none⟩ rfl (run_loadG GD.out.c0 GD.out.c1)) ?_;go_frame;refine Rg.lm 38 (.slice ta TT.length tc) ?_;go_frame;refine list_ask (some 39) rfl rfl _ _ (exec_fn 87 _ _ _ rfl rfl rfl (Hicl1 _ _)) ?_;refine (bleast_any n _ _ gs TT wd hn GD.out.rows HGG.out hgl PR.out HRG.out (by omega)).mono ?_;rintro e1 w21 ⟨v,M,rfl,hlr,hlab⟩;have HLR:=ι hlr;have HLB:=ι hlab;have hk9:=hlab;clear hlr hlab;refine ⟨_,rfl,?_⟩;go_frame;clear hk9
   refine Rg.la 6 (v) ?_;go_frame;rw [← HT2.out,prL_br HXL.out HYL.out] at HLB;go_wp2;go_ret;exact ⟨v,rfl,M,HLR.out.after KD.out,HLB.out⟩
  case pos =>
   obtain ⟨va,vc,hvc,hva⟩:=HV.out a ha2;have CP:=ι (CL.up (HCP.out a ha2 va vc hvc) JM.out.bel);obtain ⟨l,hl⟩:∃ l,Hid ([x,y].getD a []=l):=⟨_,ι rfl⟩;rw [hl.out] at hva;have HLL:=ι (show l.length=n by rw [← hl.out]; exact HLN.out a ha2);have NV:=ι (NpW.mk (hva.below (Rg.acc HWB.out (Below.refl _ _))));have HT0:=ι (show prJ x y n a 0=TT by rw [← hTT.out,if_neg (by omega)]);clear hvc hva hTT;go_upto_region 3 with (fail);refine wp_region_list ?_;refine Rg.lr 16 (exec_bin (R:=.bool true) .lss _ _ _ rfl rfl rfl (b_lss _ (decide_eq_true (by omega)))) ?_;go_frame;go_upto_region 4 with (fail);refine wp_region_list ?_;refine Rg.lr 17 (exec_indexS slIntss _ _ rfl pb (0) (2) 2 (a) rfl rfl ha2) ?_;go_frame;refine Rg.lr 18 (Rg.exec_load (v:=.slice va n vc) _ _ rfl ⟨pb,0+a,none⟩ rfl (Rg.run_loadSl _ _ Tryz.underlying36 CP.out.cell)) ?_;go_frame;refine Rg.la 9 (.slice va n vc) ?_;go_frame
   go_upto_region 5 with (fail);refine wp_region_list ?_;refine Rg.lm 19 (.slice va n vc) ?_;go_frame;refine Rg.lr 20 (exec_len _ _ _ rfl Tryz.underlying36 _ _ _ rfl) ?_;go_frame;refine Rg.lm 21 (.int .i64 ((0:Nat):Int)) ?_;go_frame;go_wp2
   go_loopw [7,21] (fun tv iv wr=>∃ (i:Nat) (TT:List (Nat × Nat)),iv=.int .i64 ((i:Nat):Int)∧i≤n∧Hid (prJ x y n a i=TT)∧Hid (JdM w1 wr tv TT)) (fun _ iv _=>n - (intOf iv).toNat)
   case atStart=>exact ⟨0,TT,rfl,Nat.zero_le _,HT0,JM⟩
   case round =>
    clear JM HT0 CP HTL;obtain ⟨i,TT,rfl,hi,HT0,JM⟩:=hrel;obtain ⟨ta,tc,rfl,-⟩:=JM.out.t.shape;generalize wr=we at *
    by_cases hin:i<n
    case neg =>
     obtain rfl:n=i:=by omega
     go_upto_region 6 with (fail);refine wp_region_list ?_;refine Rg.lr 22 (exec_bin (R:=.bool false) .lss _ _ _ rfl rfl rfl (b_lss _ (decide_eq_false (by omega)))) ?_;go_frame;go_upto_region 10 with (fail);refine wp_region_list ?_;refine Rg.lr 36 (exec_bin (R:=.int .i64 (((a+1):Nat):Int)) .add _ _ _ rfl rfl rfl (b_add _ (by omega) (by omega))) ?_;go_frame;refine Rg.lm 15 (.int .i64 (((a+1):Nat):Int)) ?_;go_frame
     have HT9:=ι (show (if a+1=2 then prJ x y n 1 n else prJ x y n (a+1) 0)=TT by
      rw [← HT0.out]
      match a,ha2 with
      | 0,_=>rw [if_neg (by omega)]; exact prJ_next x y n
      | 1,_=>rw [if_pos rfl])
     go_wp2
     go_roundw
     case rel=>exact ⟨a+1,TT,by go_num,ha2,HT9,JM⟩
     case measure=>simp [intOf]; omega
    case pos =>
     obtain ⟨lb,lo,rfl,hlb,hlc⟩:=ints_get NV.out.np (k:=i) (by rw [Ma.len_ofN,HLL.out]; exact hin);obtain ⟨t,ht⟩:∃ t,Hid (l.getD i 0=t):=⟨_,ι rfl⟩;rw [show (Ma.ofN l)[i]'(by rw [Ma.len_ofN,HLL.out]; exact hin)=((t:Nat):Int) by rw [Ma.get_ofN,← ht.out,getN_at (by rw [HLL.out]; exact hin)]] at hlc;have CT:=ι (CL.up (CL.up (CL.mk hlc hlb) (Below.refl _ _)) JM.out.bel);have NW:=ι (NpW.below NV.out JM.out.bel);have HIX:=ι (fun (w2:World) (h2:NpW w2 (.slice (some ⟨lb,lo,none⟩) n vc) l)=>index_n (.slice (some ⟨lb,lo,none⟩) n vc) l i w2 h2.np (by rw [HLL.out]; omega) (by rw [HLL.out]; exact hin));rw [ht.out] at HIX;obtain ⟨q,hq⟩:∃ q,Hid (l.idxOf t=q):=⟨_,ι rfl⟩;rw [hq.out] at HIX
     have hTb:TT.length≤192:=by rw [← HT0.out]; have:=prJ_len x y n a i; omega
     have HSN:=ι (show prJ x y n a (i+1)=TT++[(q,i)] by rw [prJ_snoc x y n a i ha2,HT0.out,hl.out,ht.out,hq.out]);clear hlb hlc;go_upto_region 6 with (fail);refine wp_region_list ?_;refine Rg.lr 22 (exec_bin (R:=.bool true) .lss _ _ _ rfl rfl rfl (b_lss _ (decide_eq_true (by omega)))) ?_;go_frame;go_upto_region 7 with (fail);refine wp_region_list ?_;refine Rg.lm 23 (.int .i64 ((i:Nat):Int)) ?_;go_frame;refine Rg.la 10 (.int .i64 ((i:Nat):Int)) ?_;go_frame;go_upto_region 8 with (fail);refine wp_region_list ?_;refine Rg.lm 24 (.slice ta TT.length tc) ?_;go_frame;refine Rg.lm 25 (.slice (some ⟨lb,lo,none⟩) n vc) ?_;go_frame;refine Rg.lm 26 (.slice (some ⟨lb,lo,none⟩) n vc) ?_;go_frame;refine Rg.lm 27 (.int .i64 ((i:Nat):Int)) ?_;go_frame;refine Rg.lr 28 (exec_indexS slInts _ _ rfl lb (lo) (n) vc (i) rfl rfl hin) ?_;go_frame;refine Rg.lr 29 (Rg.exec_load (v:=.int .i64 ((t:Nat):Int)) _ _ rfl ⟨lb,lo+i,none⟩ rfl (run_loadInt CT.out.cell)) ?_;go_frame
     refine list_ask (some 30) rfl rfl _ _ (exec_fn 171 _ _ _ rfl rfl rfl (Hjcl2 _ _)) ?_;refine (HIX.out we NW.out).mono ?_;rintro e1 w81 ⟨rfl,hb⟩;refine ⟨_,rfl,?_⟩;go_frame;replace JM:=ι (JM.out.below hb);replace CT:=ι (CT.out.below hb);replace NW:=ι (NW.out.below hb);clear hb;refine Rg.lm 31 (.int .i64 ((i:Nat):Int)) ?_;go_frame;refine Rg.lr 32 (exec_build2 _ _ rfl rfl rfl) ?_;go_frame;obtain ⟨a9,c9,X9,r1,hjm⟩:=JM.out.push (q,i) (by omega) 176;refine Rg.lr 33 (Rg.exec_buildSlice _ _ _ rfl (.agg #[.int .i64 ((q:Nat):Int),.int .i64 ((i:Nat):Int)]) rfl (run_build2p w81 _ _)) ?_;go_frame;refine Rg.lr 34 (Rg.exec_append _ _ _ rfl rfl rfl r1) ?_;go_frame;refine Rg.la 7 (.slice a9 (TT.length+1) c9) ?_;go_frame;have JM9:=ι hjm;clear r1 hjm;go_upto_region 9 with (fail);refine wp_region_list ?_;refine Rg.lr 35 (exec_bin (R:=.int .i64 (((i+1):Nat):Int)) .add _ _ _ rfl rfl rfl (b_add _ (by omega) (by omega))) ?_;go_frame
     refine Rg.lm 21 (.int .i64 (((i+1):Nat):Int)) ?_;go_frame;go_wp2
     go_roundw
     case rel=>exact ⟨i+1,TT++[(q,i)],by go_num,hin,HSN,JM9⟩
     case measure=>simp [intOf]; omega
end Go.Proofs.YthehbckogieimaaGreat

namespace Go.Proofs.Bk
variable {n m:Nat} {f:Nat→Nat→Nat}
def Fst0 (n m:Nat) (f:Nat→Nat→Nat) (L:List Nat):Prop:=IsLab n (BR m f fun _ _=>False) L
def BsOk (n m:Nat) (f:Nat→Nat→Nat) (Bs:List (List Nat)) (k:Nat):Prop:=Bs.length=k∧∀ q b,Bs[q]?=some b→IsLab n (BR m f (onep 0 (q+1))) b
theorem BsOk.nil:BsOk n m f [] 0:=⟨rfl,fun q b h=>by simp at h⟩
theorem BsOk.snoc {Bs:List (List Nat)} {k:Nat} {b:List Nat} (h:BsOk n m f Bs k) (hb:IsLab n (BR m f (onep 0 (k+1))) b):BsOk n m f (Bs++[b]) (k+1):=by
 refine ⟨by rw [List.length_append,h.1]; rfl,fun q c hq=>?_⟩
 by_cases e:q<Bs.length
 ·rw [List.getElem?_append_left e] at hq
  exact h.2 q c hq
 ·rw [List.getElem?_append_right (by omega)] at hq
  have e2:q - Bs.length=0:=by
   by_cases e3:q - Bs.length=0
   ·exact e3
   ·rw [List.getElem?_eq_none (by simp; omega)] at hq; cases hq
  rw [e2] at hq
  have e4:q=k:=by have:=h.1; omega
  obtain rfl:b=c:=by simpa using hq
  rw [e4]; exact hb
structure AJ (n m:Nat) (f:Nat→Nat→Nat) (Bs T:List (List Nat)) (i j:Nat):Prop where
 nd:T.Nodup
 rc:∀ y∈T,RcB n m f y
 one:∃ y∈T,Fst0 n m f y
 c1:∀ i' x,i' < i→T[i']?=some x→∀ b∈Bs,∀ y,IsLab n (BR m f (both n x b)) y→y∈T
 c2:∀ x,T[i]?=some x→∀ j' b,j' < j→Bs[j']?=some b→∀ y,IsLab n (BR m f (both n x b)) y→y∈T
theorem AJ.start {Bs:List (List Nat)} {x:List Nat} (h:Fst0 n m f x):AJ n m f Bs [x] 0 0 :=
 ⟨by simp,fun y hy=>by rw [List.mem_singleton] at hy; subst hy; exact .first h,⟨x,by simp,h⟩,fun _ _ h=>absurd h (Nat.not_lt_zero _),fun _ _ _ _ h=>absurd h (Nat.not_lt_zero _)⟩
theorem AJ.hit {Bs T:List (List Nat)} {i j:Nat} {x b y:List Nat} (h:AJ n m f Bs T i j) (hx:T[i]?=some x) (hb:Bs[j]?=some b) (hy:IsLab n (BR m f (both n x b)) y) (hm:y∈T):AJ n m f Bs T i (j+1) :=
 ⟨h.nd,h.rc,h.one,h.c1,fun x' hx' j' b' hj' hb' y' hy'=>by
  by_cases e:j'=j
  ·subst e
   rw [hx] at hx'; rw [hb] at hb'
   injection hx' with e1; injection hb' with e2
   subst e1 e2;rw [hy'.uniq hy]; exact hm
  ·exact h.c2 x' hx' j' b' (by omega) hb' y' hy'⟩
theorem AJ.new {Bs T:List (List Nat)} {i j p:Nat} {x b y:List Nat} (h:AJ n m f Bs T i j) (hx:T[i]?=some x) (hb:Bs[j]?=some b) (hy:IsLab n (BR m f (both n x b)) y) (hm:y∉T) (hp:p<n) (hbp:IsLab n (BR m f (onep 0 p)) b):AJ n m f Bs (T++[y]) i (j+1):=by
 have hi:i<T.length:=(List.getElem?_eq_some_iff.1 hx).1
 have key:∀ i' z,i'≤i→(T++[y])[i']?=some z→T[i']?=some z:=fun i' z h1 h2=>by rwa [List.getElem?_append_left (by omega)] at h2
 refine ⟨?_,?_,?_,?_,?_⟩
 ·rw [List.nodup_append]
  exact ⟨h.nd,by simp,fun a ha b hb=>by rw [List.mem_singleton] at hb; subst hb; exact fun e=>hm (e▸ha)⟩
 ·intro z hz
  rcases List.mem_append.1 hz with hz | hz
  ·exact h.rc z hz
  ·rw [List.mem_singleton] at hz
   subst hz;exact .join (h.rc x (List.mem_of_getElem? hx)) hp hbp hy
 ·obtain ⟨z,hz,h1⟩:=h.one
  exact ⟨z,List.mem_append_left _ hz,h1⟩
 ·intro i' z hi' hz b' hb' y' hy'
  exact List.mem_append_left _ (h.c1 i' z hi' (key i' z (by omega) hz) b' hb' y' hy')
 ·intro z hz j' b' hj' hb' y' hy'
  have hz:=key i z (Nat.le_refl _) hz
  by_cases e:j'=j
  ·subst e
   rw [hx] at hz; rw [hb] at hb'
   injection hz with e1; injection hb' with e2
   subst e1 e2;rw [hy'.uniq hy]; exact List.mem_append_right _ (List.mem_singleton.2 rfl)
  ·exact List.mem_append_left _ (h.c2 z hz j' b' (by omega) hb' y' hy')
theorem AJ.next {Bs T:List (List Nat)} {i j:Nat} (h:AJ n m f Bs T i j) (hj:Bs.length≤j):AJ n m f Bs T (i+1) 0 :=
 ⟨h.nd,h.rc,h.one,fun i' x hi' hx b hb y hy=>by
  by_cases e:i'=i
  ·subst e
   obtain ⟨k,hk,e⟩:=List.getElem_of_mem hb;exact h.c2 x hx k b (by omega) (by rw [List.getElem?_eq_getElem hk,e]) y hy
  ·exact h.c1 i' x (by omega) hx b hb y hy,fun _ _ _ _ h=>absurd h (Nat.not_lt_zero _)⟩
theorem both_comm {x y:List Nat}:both n x y=both n y x:=funext fun a=>funext fun b=>propext (by unfold both; rw [or_comm])
def AllB (n m:Nat) (f:Nat→Nat→Nat) (T:List (List Nat)):Prop:=T.Nodup∧∀ y,y∈T↔RcB n m f y
theorem AJ.done {Bs T:List (List Nat)} {i j:Nat} (hn:1≤n) (hf:∀ s a,s<m→a<n→f s a<n) (h:AJ n m f Bs T i j) (hi:T.length≤i) (hB:BsOk n m f Bs (n - 1)):AllB n m f T:=by
 refine ⟨h.nd,fun y=>⟨h.rc y,fun hr=>?_⟩⟩
 induction hr with
 | first h1 =>
  obtain ⟨z,hz,h2⟩:=h.one;rw [h1.uniq h2]; exact hz
 | @join x b y p hx hp hb hy ih =>
  obtain ⟨k,hk,e⟩:=List.getElem_of_mem ih
  match p,hp,hb with
  | 0,_,hb =>
   have h1:Fst0 n m f b:=hb.congr fun a c _ _=>by
    refine ⟨fun h=>BR.sub (fun u v huv=>?_) h,fun h=>BR.sub (fun _ _ h=>h.elim) h⟩;rw [huv.1,huv.2]; exact .refl _
   obtain ⟨h2,h3,h4⟩:=hx.inv hf;have h5:IsLab n (ker x) x:=⟨h3,h4,fun _ _ _ _=>Iff.rfl⟩
   have h6:IsLab n (ker x) y:=hy.congr fun a c ha hc=>by rw [both_comm]; exact both_first h1 h2 hf ha hc
   rw [h6.uniq h5]; exact ih
  | p+1,hp,hb =>
   have h1:p<Bs.length:=by rw [hB.1]; omega
   have h2:=hB.2 p Bs[p] (List.getElem?_eq_getElem h1);rw [hb.uniq h2] at hy;exact h.c1 k x (by omega) (by rw [List.getElem?_eq_getElem hk,e]) Bs[p] (List.getElem_mem h1) y hy
def cnt:Nat→Nat→Nat
 | 0,_=>1
 | k+1,m=>m*cnt k m+cnt k (m+1)
def rgL:Nat→Nat→List (List Nat)
 | 0,_=>[[]]
 | k+1,m=>((List.range m).flatMap fun x=>(rgL k m).map (x :: ·))++(rgL k (m+1)).map (m :: ·)
theorem rgL_len:∀ k m,(rgL k m).length=cnt k m
 | 0,_=>rfl
 | k+1,m=>by
  unfold rgL cnt;rw [List.length_append,List.length_map,rgL_len k (m+1),List.length_flatMap]
  have e:(List.range m).map (fun x=>((rgL k m).map (x :: ·)).length)=List.replicate m (cnt k m):=by
   rw [List.eq_replicate_iff];refine ⟨by simp,fun y hy=>?_⟩;obtain ⟨x,_,rfl⟩:=List.mem_map.1 hy;rw [List.length_map,rgL_len k m]
  rw [e,List.sum_replicate_nat]
theorem mem_rgL:∀ (k m:Nat) (L:List Nat),L.length=k→rgc L m→L∈rgL k m
 | 0,_,[],_,_=>List.mem_singleton.2 rfl
 | k+1,m,x :: L,hl,h=>by
  have hl2:L.length=k:=by simpa using hl
  unfold rgL;obtain ⟨h1,h2⟩:x≤m∧rgc L (if x=m then m+1 else m):=h
  by_cases e:x=m
  ·subst e
   rw [if_pos rfl] at h2;exact List.mem_append_right _ (List.mem_map.2 ⟨L,mem_rgL k _ L hl2 h2,rfl⟩)
  ·rw [if_neg e] at h2
   exact List.mem_append_left _ (List.mem_flatMap.2 ⟨x,List.mem_range.2 (by omega),List.mem_map.2 ⟨L,mem_rgL k _ L hl2 h2,rfl⟩⟩)
theorem rcb_few {T:List (List Nat)} (hf:∀ s a,s<m→a<n→f s a<n) (hn:T.Nodup) (h:∀ y∈T,RcB n m f y):T.length≤cnt n 0:=by
 rw [← rgL_len];refine Go.Proofs.YthehbckogieimaaGreat.nodup_le hn fun y hy=>?_;obtain ⟨_,h2,h3⟩:=(h y hy).inv hf;exact mem_rgL n 0 y h2 h3
theorem cnt_10:∀ n,n≤10→cnt n 0≤200000:=by decide +kernel
theorem rgc_lt {L:List Nat} (h:rgc L 0):∀ x∈L,x<L.length:=fun x hx=>by
 have h1:=(rgc_mem h x).1 (.inr hx);have h2:=mny_le L 0;omega
end Go.Proofs.Bk
namespace Go.Proofs.YthehbckogieimaaGreat
open Go.RowKit
open Go.Proofs
open Go.Proofs.Ob
attribute [local irreducible] Go.Calls Go.wpList
theorem rgc_gk {n:Nat} {L:List Nat} (hn:n≤64) (hl:L.length=n) (h:Bk.rgc L 0):GK n L:=⟨hl,hn,fun x hx=>by have:=Bk.rgc_lt h x hx; omega⟩
structure AlM (w W:World) (F:Nat→Prop) (r:Nat) (fv bv:Value) (T Bs:List (List Nat)):Prop where
 bel:Below w.heap.size w W
 row:RowJ w.heap.size F (fun z=>z=r∨bv.ownBlock=some z) W fv (T.map Ma.ofN)
 base:RowJ w.heap.size F (fun z=>z=r) W bv (Bs.map Ma.ofN)
 mp:Km.KMap W r (seenM T)
 rlo:w.heap.size≤r
 nF:¬ F r
 Flt:∀ z,F z→z<W.heap.size
theorem AlM.up {w W W':World} {F:Nat→Prop} {r:Nat} {fv bv:Value} {T Bs:List (List Nat)} (h:AlM w W F r fv bv T Bs) (hb:Below W.heap.size W W'):AlM w W' (Fup F W W') r fv bv T Bs :=
 ⟨Rg.acc h.bel hb,h.row.upk (N:=fun _=>False) (Rg.Kp.of_below hb) (fun _ _=>id) (fun _ e=>e.elim),h.base.upk (N:=fun _=>False) (Rg.Kp.of_below hb) (fun _ _=>id) (fun _ e=>e.elim),h.mp.below hb,h.rlo,fun g=>by
  rcases g with g | g
  ·exact h.nF g
  ·have:=h.mp.lt; omega,fun z g=>by
  rcases g with g | g
  ·exact Nat.lt_of_lt_of_le (h.Flt z g) hb.size
  ·exact g.2⟩
theorem AlM.put {w W:World} {F:Nat→Prop} {r d:Nat} {fv bv u:Value} {T Bs:List (List Nat)} {x:List Nat} (h:AlM w W F r fv bv T Bs) (hg:∀ q∈T,GK d q) (hx:GK d x) (hn:x∉T) (hu:Rg.FI F W u (Ma.ofN x)) (hs:∃ a m c,u=.slice a m c) (hT:T.length<1000000) (ty:TypeId) :
  ∃ X,(Instr.mapUpdate 107 (.map (some r)) (.agg (keyC x)) (.bool true)).run Tryz.prog W=.ok () X ∧
   ∃ a c Y,(Builtin.append_ #[27,27] ty #[fv,.slice (some ⟨X.heap.size,0,none⟩) 1 1]).run Tryz.prog (X.alloc (.cells #[u] 36))=.ok (.slice a (T.length+1) c) Y∧AlM w Y F r (.slice a (T.length+1) c) bv (T++[x]) Bs:=by
 obtain ⟨X,h1,h2,h3⟩:=put_seen h.mp hg hx hn;have hk:Rg.Kp (fun z=>z=r) W X:=Rg.Kp.of_grown h3 (fun k e=>(Option.some.inj e).symm);have hrow:=h.row.kp hk (fun k hF e=>h.nF (e▸hF)) (fun k e e2=>(h.row.off k e).2 (.inl e2));have hbase:=h.base.kp hk (fun k hF e=>h.nF (e▸hF)) (fun k e e2=>(h.base.off k e).2 e2);have hu2:=Rg.FI.kp hu hk (fun z hF e=>h.nF (e▸hF))
 obtain ⟨a,c,Y,r1,r2,r3⟩:=hrow.push hu2 hs (fun k g=>Nat.lt_of_lt_of_le (h.Flt k g) hk.size) (fun k e=>by
  rcases e with e | e
  ·subst e; exact h2.lt
  ·exact (hbase.lt k e).2) (by rw [List.length_map]; exact hT) ty
 rw [List.length_map] at r1 r2;refine ⟨X,h1,a,c,Y,r1,⟨?_,by rw [List.map_append]; exact r2,hbase.kp r3 (fun k hF e=>(hrow.off k e).1 hF) (fun k e e2=>(hrow.off k e2).2 (.inr e)),?_,h.rlo,h.nF,fun z g=>Nat.lt_of_lt_of_le (h.Flt z g) (Nat.le_trans hk.size r3.size)⟩⟩
 ·exact kp_below (kp_below h.bel h.bel.size hk (fun k e=>by subst e; exact h.rlo)) (Nat.le_trans h.bel.size hk.size) r3 (fun k e=>(hrow.lt k e).1)
 ·exact h2.of_block (r3.block r h2.lt (fun e=>(hrow.off r e).2 (.inl rfl)))
theorem AlM.pushB {w W:World} {F:Nat→Prop} {r:Nat} {fv bv u:Value} {T Bs:List (List Nat)} {x:List Nat} (h:AlM w W F r fv bv T Bs) (hu:Rg.FI F W u (Ma.ofN x)) (hs:∃ a m c,u=.slice a m c) (hT:Bs.length<1000000) (ty:TypeId) :
  ∃ a c Y,(Builtin.append_ #[27,27] ty #[bv,.slice (some ⟨W.heap.size,0,none⟩) 1 1]).run Tryz.prog (W.alloc (.cells #[u] 36))=.ok (.slice a (Bs.length+1) c) Y∧AlM w Y F r fv (.slice a (Bs.length+1) c) T (Bs++[x]):=by
 have hb1:=h.base.withM (N:=fun z=>z=r∨fv.ownBlock=some z) (fun k e e2=>by
  rcases e2 with e2 | e2
  ·exact (h.base.off k e).2 e2
  ·exact (h.row.off k e2).2 (.inr e))
 obtain ⟨a,c,Y,r1,r2,r3⟩:=hb1.push hu hs h.Flt (fun k e=>by
  rcases e with e | e
  ·subst e; exact h.mp.lt
  ·exact (h.row.lt k e).2) (by rw [List.length_map]; exact hT) ty
 rw [List.length_map] at r1 r2;have hr:=h.row.kp r3 (fun k hF e=>(h.base.off k e).1 hF) (fun k e e2=>(h.row.off k e).2 (.inr e2));refine ⟨a,c,Y,r1,⟨?_,hr.withM (fun k e e2=>?_),by rw [List.map_append]; exact r2.withM (fun k e e2=>(r2.off k e).2 (.inl e2)),?_,h.rlo,h.nF,fun z g=>Nat.lt_of_lt_of_le (h.Flt z g) r3.size⟩⟩
 ·exact kp_below h.bel h.bel.size r3 (fun k e=>(h.base.lt k e).1)
 ·rcases e2 with e2 | e2
  ·exact (h.row.off k e).2 (.inl e2)
  ·exact (r2.off k e2).2 (.inr e)
 ·exact h.mp.of_block (r3.block r h.mp.lt (fun e=>(h.base.off r e).2 rfl))
theorem AlM.start {w W:World} {F:Nat→Prop} {r:Nat} {u:Value} {x:List Nat} (hb:Below w.heap.size w W) (hm:Km.KMap W r (seenM ([]++[x]))) (hu:Rg.FI F W u (Ma.ofN x)) (hs:∃ a m c,u=.slice a m c) (hr:w.heap.size≤r) (hnF:¬ F r) (hF:∀ z,F z→z<W.heap.size):AlM w (W.alloc (.cells #[u] 36)) F r (.slice (some ⟨W.heap.size,0,none⟩) 1 1) (.slice none 0 0) [x] []:=by
 have hbA:Below W.heap.size W (W.alloc (.cells #[u] 36)):=(Below.refl _ _).alloc (Nat.le_refl _) _
 exact ⟨hb.alloc hb.size _,RowJ.one hb.size hu hs hF (fun k e=>by
  rcases e with e | e
  ·subst e; exact hm.lt
  ·simp [Value.ownBlock] at e),RowJ.nil _ _ _ _ (Nat.le_trans hb.size hbA.size),by simpa using hm.below hbA,hr,hnF,fun z hz=>Nat.lt_of_lt_of_le (hF z hz) hbA.size⟩
theorem AlM.sp {w W:World} {F:Nat→Prop} {r:Nat} {fv bv:Value} {T Bs:List (List Nat)} (h:AlM w W F r fv bv T Bs):SpM w W F r fv T:=⟨h.bel,h.row.withM (fun k e e2=>(h.row.off k e).2 (.inl e2)),h.mp,h.rlo,h.nF,h.Flt⟩
structure FiK (F:Nat→Prop) (w:World) (v:Value) (x:List Nat):Prop where
 fi:Rg.FI F w v (Ma.ofN x)
 lt:∀ z,F z→z<w.heap.size
theorem FiK.below {F:Nat→Prop} {w w':World} {v:Value} {x:List Nat} (h:FiK F w v x) (hb:Below w.heap.size w w'):FiK F w' v x :=
 ⟨Rg.FI.kp (M:=fun _=>False) h.fi (Rg.Kp.of_below hb) (fun _ _=>id),fun z hz=>Nat.lt_of_lt_of_le (h.lt z hz) hb.size⟩
theorem LbR.fik {w w':World} {v:Value} {n:Nat} {L:List Nat} (h:LbR w w' v n L) (hn:n≤1000):FiK (fun z=>z<w'.heap.size) w' v L:=by
 have h0:=h.fp hn (F:=fun z=>z<w.heap.size)
 exact ⟨Rg.FI.mono h0 (fun z hz=>by
  rcases hz with hz | hz
  ·exact Nat.lt_of_lt_of_le hz h.bel.size
  ·exact hz.2),fun _ h=>h⟩
end Go.Proofs.YthehbckogieimaaGreat

namespace Go.Proofs.Bk
variable {n m:Nat} {f:Nat→Nat→Nat}
theorem onep_first {b:List Nat}:IsLab n (BR m f (onep 0 0)) b↔Fst0 n m f b:=by
 have key:∀ a c,BR m f (onep 0 0) a c↔BR m f (fun _ _=>False) a c:=fun a c=>by
  refine ⟨fun h=>BR.sub (fun u v huv=>?_) h,fun h=>BR.sub (fun _ _ h=>h.elim) h⟩;rw [huv.1,huv.2]; exact .refl _
 exact ⟨fun h=>h.congr fun a c _ _=>key a c,fun h=>h.congr fun a c _ _=>(key a c).symm⟩
end Go.Proofs.Bk

namespace Go.Proofs.YthehbckogieimaaGreat
open Go.RowKit
open Go.Proofs
open Go.Proofs.Ob
open Go.Proofs.Cm (Gd)
attribute [local irreducible] Go.Calls Go.wpList
theorem Hlcl1 (args:Array Value) (w:World):(callFunc 86 args).run Tryz.prog w=.ok (.enter 86 args) w:=by kernel_rfl
theorem Hlcl3 (args:Array Value) (w:World):(callFunc 88 args).run Tryz.prog w=.ok (.enter 88 args) w:=by kernel_rfl
theorem Hlcl4 (args:Array Value) (w:World):(callFunc 91 args).run Tryz.prog w=.ok (.enter 91 args) w:=by kernel_rfl
theorem Hlcl5 (args:Array Value) (w:World):(callFunc 89 args).run Tryz.prog w=.ok (.enter 89 args) w:=by kernel_rfl
theorem GI.up {w w':World} {b:Nat} {d:Int} {a:Option Addr} {ll:List (List Int)} {c:Nat} (h:GI w b d a ll c) (hb:Below w.heap.size w w'):GI w' b d a ll c:=h.below hb
theorem LbR.fiw {w w':World} {v:Value} {n:Nat} {L:List Nat} (h:LbR w w' v n L) (hn:n≤1000) {F:Nat→Prop}:FiW (Fup F w w') w' v L:=⟨h.fp hn⟩
theorem FiW.np {F:Nat→Prop} {w:World} {v:Value} {x:List Nat} (h:FiW F w v x):Rg.NP w v x:=Rg.FI.ints h.fi
theorem inT_nil:inT []=fun _ _=>False:=funext fun x=>funext fun y=>propext ⟨fun h=>absurd (show (x,y)∈[] from h) List.not_mem_nil,False.elim⟩
theorem bleastF (n:Nat) (gv pv:Value) (gs:List (List Nat)) (T0:List (Nat × Nat)) (w:World) (hn:n≤64) (hg:Rg.Rows w gv (gs.map Ma.ofN)) (hgg:GG n gs) (hgl:gs.length≤1000) (hp:Prs w pv T0) (hr:∀ z∈T0,z.1<n∧z.2<n) (hl:T0.length≤1000) :
  Calls Tryz.prog 87 #[.agg #[.int .i64 ((n:Nat):Int),gv],pv] w fun e w'=>∃ ob L,e=.returned (.slice (some ⟨ob,0,none⟩) n n)∧LbR w w' (.slice (some ⟨ob,0,none⟩) n n) n L∧Bk.IsLab n (Bk.BR gs.length (img gs) (inT T0)) L∧Below w.heap.size w w' :=
 (bleast_any n gv pv gs T0 w hn hg hgg hgl hp hr hl).mono fun _ _ ⟨v,M,h1,h2,h3⟩=>by
  obtain ⟨ob,rfl⟩:=h2.shape;exact ⟨ob,M,h1,h2,h3,h2.bel⟩
theorem bjoinedF (n:Nat) (gv xv yv:Value) (gs:List (List Nat)) (x y:List Nat) (w:World) (hn1:1≤n) (hn:n≤64) (hg:Rg.Rows w gv (gs.map Ma.ofN)) (hgg:GG n gs) (hgl:gs.length≤1000) (hx:Rg.NP w xv x) (hy:Rg.NP w yv y) (hxl:x.length=n) (hyl:y.length=n) :
  Calls Tryz.prog 89 #[.agg #[.int .i64 ((n:Nat):Int),gv],xv,yv] w fun e w'=>∃ ob L,e=.returned (.slice (some ⟨ob,0,none⟩) n n)∧LbR w w' (.slice (some ⟨ob,0,none⟩) n n) n L∧Bk.IsLab n (Bk.BR gs.length (img gs) (Bk.both n x y)) L∧Below w.heap.size w w' :=
 (bjoined_any n gv xv yv gs x y w hn1 hn hg hgg hgl hx hy hxl hyl).mono fun _ _ ⟨v,M,h1,h2,h3⟩=>by
  obtain ⟨ob,rfl⟩:=h2.shape;exact ⟨ob,M,h1,h2,h3,h2.bel⟩
theorem SpM.sorted2 {w W:World} {F:Nat→Prop} {r:Nat} {fv:Value} {T:List (List Nat)} (h:SpM w W F r fv T) (h0:T≠[]) (hn:T.length≤200000) :
  ∃ b c,fv=.slice (some ⟨b,0,none⟩) T.length c∧Calls Tryz.prog 91 #[.slice (some ⟨b,0,none⟩) T.length c,.func (.func 90) #[] #[]] W fun e w'=>e=.returned (.tuple #[])∧∃ T',Hid (T'.Perm T∧AscL T'∧Rg.Rows w' (.slice (some ⟨b,0,none⟩) T.length c) (T'.map Ma.ofN))∧Below w.heap.size w w':=by
 obtain ⟨us,h1,h2⟩:=h.row.own;have hlt:=h.row.lt;have hoff:=h.row.off;obtain ⟨h3,h4⟩:=h1
 rcases h4 with ⟨rfl,h5⟩ | ⟨g,cap,cur,rfl,h6,h7,h8,h9,h10,h11⟩
 ·rw [List.length_map] at h5
  exact absurd (List.length_eq_zero_iff.1 h5) h0
 ·simp only [Nat.mul_one] at *
  rw [List.length_map] at *;refine ⟨g,cap,rfl,?_⟩;have hs:=sortLL (F:=F) (w:=W) (blk:=g) (cap:=cap) h2 (hoff g rfl).1 (fun i hi=>?_) (hlt g rfl).2 (by rw [List.length_map]; omega) (by rw [List.length_map]; exact h8) h9
  ·rw [List.length_map] at hs
   refine hs.mono ?_;rintro e w' ⟨rfl,ll',p1,p2,p3,p4⟩;obtain ⟨T',rfl,p5⟩:=perm_back p1;exact ⟨rfl,T',ι ⟨p5,p2,p3⟩,kp_below h.bel h.bel.size p4 (fun k e=>by subst e; exact h6)⟩
  ·have hi2:i<T.length:=by omega
   refine ⟨?_,?_⟩
   ·rw [cell_of_row _ _ _ _ _ _ h7,← Array.getElem?_toList,← List.getElem?_eq_getElem hi]
    conv=>rhs; rw [← h11]
    rw [List.getElem?_take_of_lt hi2]
   ·exact frozen_of_row _ _ _ _ _ h7
def AlPost (d:Int) (ll:List (List Int)) (w:World) (e:Ending) (w':World):Prop :=
 Below w.heap.size w w'∧((Ma.gchk d ll≠0∧e=.returned (.tuple #[.slice none 0 0,.int .i64 (Ma.gchk d ll)])) ∨
  (Ma.gchk d ll=0∧∃ (D:Nat) (gs:List (List Nat)),d=D∧ll=gs.map Ma.ofN ∧
   ((trn gs D=false∧e=.returned (.tuple #[.slice none 0 0,.int .i64 13]))∨(trn gs D=true∧24<D∧e=.returned (.tuple #[.slice none 0 0,.int .i64 5])) ∨
    (trn gs D=true∧D≤24∧∃ T v,e=.returned (.tuple #[v,.int .i64 0])∧Rg.Rows w' v (T.map Ma.ofN)∧Bk.AllB D gs.length (img gs) T∧AscL T))))
theorem All_any (gv:Value) (d:Int) (ll:List (List Int)) (w:World) (h:Rg.Rows w gv ll)
  (hbd:∀ (D:Nat) (gs:List (List Nat)),d=D→ll=gs.map Ma.ofN→GG D gs→trn gs D=true→D≤24→∀ T:List (List Nat),T.Nodup→(∀ y∈T,Bk.RcB D gs.length (img gs) y)→T.length≤200000) :
  Calls Tryz.prog 16 #[.agg #[.int .i64 d,gv]] w (AlPost d ll w):=by
 have HBD:=ι hbd;clear hbd;obtain ⟨ga,gc,rfl,hga,hba⟩:=GI.enter (d) h;have K:=ι hba;have G0:=ι hga;clear h hga hba;obtain ⟨ck,hck⟩:∃ c,Hid (Ma.gchk d ll=c):=⟨_,ι rfl⟩
 go_enter Tryz.func16,Tryz.ntmps16
 go_upto_region 0 with (fail);refine wp_region_list ?_;refine Rg.lr 1 (Rg.exec_box _ _ rfl rfl) ?_;go_frame;refine Rg.la 2 (.slice none 0 0) ?_;go_frame;refine Rg.la 3 (.int .i64 0) ?_;go_frame;obtain ⟨gb,hgb⟩:∃ gb,w.heap.size=gb:=⟨_,rfl⟩;rw [hgb] at G0 ⊢;clear hgb;generalize w.alloc (.cells #[.int .i64 d,.slice ga ll.length gc] 24)=w0 at *;go_upto_region 1 with (fail);refine wp_region_list ?_;refine Rg.lr 15 (Rg.exec_load (v:=.agg #[.int .i64 d,.slice ga ll.length gc]) _ _ rfl ⟨gb,0,none⟩ rfl (run_loadG G0.out.c0 G0.out.c1)) ?_;go_frame;refine list_ask (some 16) rfl rfl _ _ (exec_fn1 85 _ _ rfl rfl (vacl0 _ _)) ?_;refine (orbitCheck_any _ d ll w0 G0.out.rows).mono ?_;rintro e1 w1 ⟨rfl,hb⟩;rw [hck.out];refine ⟨_,rfl,?_⟩;go_frame;replace G0:=ι (G0.out.below hb);replace K:=ι (Rg.acc K.out hb);clear hb;refine Rg.la 4 (.int .i64 ck) ?_;go_frame
 by_cases h0:ck=0
 case neg =>
  skip
  go_upto_region 2 with (fail);refine wp_region_list ?_;refine Rg.lm 17 (.int .i64 ck) ?_;go_frame;refine Rg.lr 18 (exec_bin (R:=.bool true) .neq _ _ _ rfl rfl rfl (b_neqB _ (decide_eq_true h0))) ?_;go_frame;go_upto_region 3 with (fail);refine wp_region_list ?_;refine Rg.lm 19 (.int .i64 ck) ?_;go_frame;refine Rg.la 2 (.slice none 0 0) ?_;go_frame;refine Rg.la 3 (.int .i64 ck) ?_;go_frame;go_wp2
  go_ret2
  exact ⟨K.out,.inl ⟨by rw [hck.out]; exact h0,by rw [hck.out]; rfl⟩⟩
 case pos =>
  have HZ:=ι (hck.out.trans h0);go_upto_region 2 with (fail);refine wp_region_list ?_;refine Rg.lm 17 (.int .i64 ck) ?_;go_frame;refine Rg.lr 18 (exec_bin (R:=.bool false) .neq _ _ _ rfl rfl rfl (b_neqB _ (decide_eq_false (fun e=>e h0)))) ?_;go_frame;clear h0;obtain ⟨D,gs,hD,hgs,hgg,hD1,hD2,hgl⟩:=gchk_ok HZ.out;subst hD hgs;have HGG:=ι hgg;clear hgg;obtain ⟨tb,htb⟩:∃ b,Hid (trn gs D=b):=⟨_,ι rfl⟩
  cases tb
  case false =>
   skip
   go_upto_region 4 with (fail);refine wp_region_list ?_;refine Rg.lr 20 (Rg.exec_load (v:=.agg #[.int .i64 ((D:Nat):Int),.slice ga (gs.map Ma.ofN).length gc]) _ _ rfl ⟨gb,0,none⟩ rfl (run_loadG G0.out.c0 G0.out.c1)) ?_;go_frame;refine list_ask (some 21) rfl rfl _ _ (exec_fn1 86 _ _ rfl rfl (Hlcl1 _ _)) ?_;refine (btrans_any _ D gs w1 HZ.out G0.out.rows).mono ?_;rintro e1 w2 ⟨rfl,hb⟩;rw [htb.out];refine ⟨_,rfl,?_⟩;go_frame;replace G0:=ι (G0.out.below hb);replace K:=ι (Rg.acc K.out hb);clear hb;refine Rg.lr 22 (exec_not _ _ false rfl rfl) ?_;go_frame;go_upto_region 5 with (fail);refine wp_region_list ?_;refine Rg.la 2 (.slice none 0 0) ?_;go_frame;refine Rg.la 3 (.int .i64 ((13:Nat):Int)) ?_;go_frame;go_wp2
   go_ret2
   exact ⟨K.out,.inr ⟨HZ.out,D,gs,rfl,rfl,.inl ⟨htb.out,rfl⟩⟩⟩
  case true =>
   skip
   go_upto_region 4 with (fail);refine wp_region_list ?_;refine Rg.lr 20 (Rg.exec_load (v:=.agg #[.int .i64 ((D:Nat):Int),.slice ga (gs.map Ma.ofN).length gc]) _ _ rfl ⟨gb,0,none⟩ rfl (run_loadG G0.out.c0 G0.out.c1)) ?_;go_frame;refine list_ask (some 21) rfl rfl _ _ (exec_fn1 86 _ _ rfl rfl (Hlcl1 _ _)) ?_;refine (btrans_any _ D gs w1 HZ.out G0.out.rows).mono ?_;rintro e1 w2 ⟨rfl,hb⟩;rw [htb.out];refine ⟨_,rfl,?_⟩;go_frame;replace G0:=ι (G0.out.below hb);replace K:=ι (Rg.acc K.out hb);clear hb;refine Rg.lr 22 (exec_not _ _ true rfl rfl) ?_;go_frame
   by_cases h24:24<D
   case pos =>
    skip
    go_upto_region 6 with (fail);refine wp_region_list ?_;refine Rg.lr 23 (exec_fieldG0 _ rfl rfl) ?_;go_frame;refine Rg.lr 24 (Rg.exec_load (v:=.int .i64 ((D:Nat):Int)) _ _ rfl ⟨gb,0,none⟩ rfl (run_loadInt G0.out.c0)) ?_;go_frame;refine Rg.lr 25 (exec_bin (R:=.bool true) .gtr _ _ _ rfl rfl rfl (b_gtr _ (decide_eq_true (by omega)))) ?_;go_frame;go_upto_region 7 with (fail);refine wp_region_list ?_;refine Rg.la 2 (.slice none 0 0) ?_;go_frame;refine Rg.la 3 (.int .i64 ((5:Nat):Int)) ?_;go_frame;go_wp2
    go_ret2
    exact ⟨K.out,.inr ⟨HZ.out,D,gs,rfl,rfl,.inr (.inl ⟨htb.out,h24,rfl⟩)⟩⟩
   case neg =>
    have hD24:D≤24:=by omega
    clear h24;replace HBD:=ι (HBD.out D gs rfl rfl HGG.out htb.out hD24);go_upto_region 6 with (fail);refine wp_region_list ?_;refine Rg.lr 23 (exec_fieldG0 _ rfl rfl) ?_;go_frame;refine Rg.lr 24 (Rg.exec_load (v:=.int .i64 ((D:Nat):Int)) _ _ rfl ⟨gb,0,none⟩ rfl (run_loadInt G0.out.c0)) ?_;go_frame;refine Rg.lr 25 (exec_bin (R:=.bool false) .gtr _ _ _ rfl rfl rfl (b_gtr _ (decide_eq_false (by omega)))) ?_;go_frame;go_upto_region 8 with (fail);refine wp_region_list ?_;refine Rg.lr 26 (Rg.exec_load (v:=.agg #[.int .i64 ((D:Nat):Int),.slice ga (gs.map Ma.ofN).length gc]) _ _ rfl ⟨gb,0,none⟩ rfl (run_loadG G0.out.c0 G0.out.c1)) ?_;go_frame;refine list_ask (some 27) rfl rfl _ _ (exec_fn 87 _ _ _ rfl rfl rfl (Hicl1 _ _)) ?_;refine (bleastF D _ _ gs [] w2 hD2 G0.out.rows HGG.out (by omega) (Prs.nil _) (fun z hz=>by cases hz) (Nat.zero_le _)).mono ?_;rintro e1 w3 ⟨fb0,L0,rfl,hlr,hlab,hb⟩
    have HF0:=ι (show Bk.Fst0 D gs.length (img gs) L0 by rw [inT_nil] at hlab; exact hlab);have hfk:=hlr.fik (by omega);clear hlr hlab;refine ⟨_,rfl,?_⟩;go_frame;replace G0:=ι (G0.out.below hb);replace K:=ι (Rg.acc K.out hb);clear hb;have FK:=ι hfk;refine Rg.la 5 (.slice (some ⟨fb0,0,none⟩) D D) ?_;go_frame;clear hfk;have HFK:=ι (show GK D L0 from rgc_gk hD2 HF0.out.len HF0.out.rg);have HWB:=ι K.out;have KB:=ι (Below.refl w3.heap.size w3);have GB:=ι G0.out;clear G0;obtain ⟨mr,hmr⟩:∃ r,w3.heap.size=r:=⟨_,rfl⟩;have HMR:=ι hmr;go_upto_region 9 with (fail);refine wp_region_list ?_;have hmp:=KmW.mk (T:=[]) (show Km.KMap _ _ (seenM []) from Km.KMap.new w3);refine Rg.lr 28 (exec_makeMap _ rfl) ?_;go_frame;rw [hmr] at hmp ⊢;have hb:=(Below.refl w3.heap.size w3).alloc (Nat.le_refl _) (.map #[] 0);generalize w3.alloc (.map #[] 0)=w4 at *;replace FK:=ι (FK.out.below hb)
    replace KB:=ι (Rg.acc KB.out hb);clear hb;have MP:=ι hmp;clear hmp;refine Rg.lm 29 (.slice (some ⟨fb0,0,none⟩) D D) ?_;go_frame;refine list_ask (some 30) rfl rfl _ _ (exec_fn1 88 _ _ rfl rfl (Hlcl3 _ _)) ?_;refine (bpacked_any _ L0 w4 (Rg.FI.ints FK.out.fi) (by rw [HF0.out.len]; omega) HFK.out.2.2).mono ?_;rintro e1 w5 ⟨rfl,hb⟩;refine ⟨_,rfl,?_⟩;go_frame;replace FK:=ι (FK.out.below hb);replace MP:=ι (MP.out.below hb);replace KB:=ι (Rg.acc KB.out hb);clear hb;obtain ⟨W9,m1,m2,m3⟩:=put_seen (T:=[]) MP.out.m (fun q hq=>by simp at hq) HFK.out (by simp);refine Rg.list_skip none rfl rfl (Rg.exec_insert _ _ _ _ rfl _ _ _ rfl rfl rfl m1) ?_;go_frame;refine Rg.lm 31 ((.map (some mr))) ?_;go_frame;refine Rg.la 6 ((.map (some mr))) ?_;go_frame
    have hkm:Rg.Kp (fun z=>z=mr) w5 W9:=Rg.Kp.of_grown m3 (fun k e=>by injection e with e; exact e.symm)
    have hb9:Below w3.heap.size w3 W9:=kp_below KB.out KB.out.size hkm (fun k e=>Nat.le_of_eq (hmr.trans e.symm));have hfk9:FiK (fun z=>z<w3.heap.size) W9 (.slice (some ⟨fb0,0,none⟩) D D) L0:=⟨Rg.FI.kp FK.out.fi hkm (fun z hz e=>by omega),fun z hz=>Nat.lt_of_lt_of_le hz hb9.size⟩;have AM:=ι (AlM.start hb9 m2 hfk9.fi ⟨_,_,_,rfl⟩ (Nat.le_of_eq hmr) (fun (e:mr<w3.heap.size)=>by omega) hfk9.lt);clear m1 m2 m3 hkm hb9 hfk9 MP FK KB HMR;go_upto_region 10 with (fail);refine wp_region_list ?_;refine Rg.lm 32 (.slice (some ⟨fb0,0,none⟩) D D) ?_;go_frame;refine Rg.lr 33 (Rg.exec_buildSlice _ _ _ rfl (.slice (some ⟨fb0,0,none⟩) D D) rfl (run_build1L W9 _ ⟨_,_,_,rfl⟩)) ?_;go_frame;refine Rg.la 7 (.slice (some ⟨W9.heap.size,0,none⟩) 1 1) ?_;go_frame;generalize W9.alloc (.cells #[.slice (some ⟨fb0,0,none⟩) D D] 36)=w9 at *;obtain ⟨fb,hfb⟩:∃ fb,W9.heap.size=fb:=⟨_,rfl⟩
    rw [hfb] at AM ⊢;clear hfb;obtain ⟨F,hF⟩:∃ F:Nat→Prop,(fun z=>z<w3.heap.size)=F:=⟨_,rfl⟩;rw [hF] at AM;clear hF hmr;go_upto_region 11 with (fail);refine wp_region_list ?_;refine Rg.la 8 (.slice none 0 0) ?_;go_frame;go_upto_region 12 with (fail);refine wp_region_list ?_;refine Rg.la 9 (.int .i64 ((1:Nat):Int)) ?_;go_frame;have BO:=ι (Bk.BsOk.nil (n:=D) (m:=gs.length) (f:=img gs));go_wp2
    go_loopw [8,9] (fun bv pv wr=>∃ (k:Nat) (F:Nat→Prop) (Bs:List (List Nat)),pv=.int .i64 ((k+1:Nat):Int)∧k+1≤D∧Hid (AlM w3 wr F mr (.slice (some ⟨fb,0,none⟩) 1 1) bv [L0] Bs)∧Hid (Bk.BsOk D gs.length (img gs) Bs k)) (fun _ pv _=>D - (intOf pv).toNat)
    case atStart=>exact ⟨0,_,_,rfl,hD1,AM,BO⟩
    case round =>
     clear AM BO;obtain ⟨k,F,Bs,rfl,hk,AM,BO⟩:=hrel;obtain ⟨ba,bc,hsh⟩:=AM.out.base.shape;rw [List.length_map] at hsh;subst hsh;generalize wr=wd at *;have GD:=ι (GB.out.below AM.out.bel)
     by_cases hkD:k+1<D
     case pos =>
      have HKD:=ι hkD;have HBL:=ι BO.out.1;go_upto_region 13 with (fail);refine wp_region_list ?_;refine Rg.lm 34 (.int .i64 (((k+1):Nat):Int)) ?_;go_frame;refine Rg.lr 35 (exec_fieldG0 _ rfl rfl) ?_;go_frame;refine Rg.lr 36 (Rg.exec_load (v:=.int .i64 ((D:Nat):Int)) _ _ rfl ⟨gb,0,none⟩ rfl (run_loadInt GD.out.c0)) ?_;go_frame;refine Rg.lr 37 (exec_bin (R:=.bool true) .lss _ _ _ rfl rfl rfl (b_lss _ (decide_eq_true (by omega)))) ?_;go_frame;go_upto_region 15 with (fail);refine wp_region_list ?_;refine Rg.lm 40 (.slice ba Bs.length bc) ?_;go_frame;refine Rg.lr 41 (Rg.exec_load (v:=.agg #[.int .i64 ((D:Nat):Int),.slice ga (gs.map Ma.ofN).length gc]) _ _ rfl ⟨gb,0,none⟩ rfl (run_loadG GD.out.c0 GD.out.c1)) ?_;go_frame;refine Rg.lm 42 (.int .i64 (((k+1):Nat):Int)) ?_;go_frame;refine Rg.lr 43 (exec_build2 _ _ rfl rfl rfl) ?_;go_frame;have hpr:=prs_one (W:=wd) (A:=0) (B:=k+1) ((Below.refl _ _).alloc (Nat.le_refl _) _) rfl
      refine Rg.lr 44 (Rg.exec_buildSlice _ _ _ rfl (.agg #[.int .i64 ((0:Nat):Int),.int .i64 (((k+1):Nat):Int)]) rfl (run_build2p wd _ _)) ?_;go_frame;have hb:=(Below.refl wd.heap.size wd).alloc (Nat.le_refl _) (.cells #[.int .i64 ((0:Nat):Int),.int .i64 (((k+1):Nat):Int)] 108);generalize wd.alloc (.cells #[.int .i64 ((0:Nat):Int),.int .i64 (((k+1):Nat):Int)] 108)=w51 at *;replace AM:=ι (AM.out.up hb);generalize Fup F wd w51=F1 at *;clear hb;have PR:=ι hpr;clear hpr;refine list_ask (some 45) rfl rfl _ _ (exec_fn 87 _ _ _ rfl rfl rfl (Hicl1 _ _)) ?_;refine (bleastF D _ _ gs [(0,k+1)] w51 hD2 (GB.out.below AM.out.bel).rows HGG.out (by omega) PR.out (fun z hz=>by rw [List.mem_singleton] at hz; subst hz; exact ⟨by show 0<D; omega,HKD.out⟩) (by show 1≤1000; omega)).mono ?_;rintro e1 w52 ⟨yb,y,rfl,hlr,hlab,hb⟩;have HLB:=ι (show Bk.IsLab D (Bk.BR gs.length (img gs) (Bk.onep 0 (k+1))) y by rw [inT_one] at hlab; exact hlab)
      clear hlab;refine ⟨_,rfl,?_⟩;go_frame;replace AM:=ι (AM.out.up hb);have YV:=ι (hlr.fiw (F:=F1) (by omega));generalize Fup F1 w51 w52=F2 at *;clear hb;clear hlr PR;obtain ⟨a9,c9,X9,r1,ham⟩:=AM.out.pushB YV.out.fi ⟨_,_,_,rfl⟩ (by have:=HBL.out; omega) 27;refine Rg.lr 46 (Rg.exec_buildSlice _ _ _ rfl (.slice (some ⟨yb,0,none⟩) D D) rfl (run_build1L w52 _ ⟨_,_,_,rfl⟩)) ?_;go_frame;refine Rg.lr 47 (Rg.exec_append _ _ _ rfl rfl rfl r1) ?_;go_frame;refine Rg.la 8 (.slice a9 (Bs.length+1) c9) ?_;go_frame;have AM9:=ι ham;clear r1 ham;go_upto_region 14 with (fail);refine wp_region_list ?_;refine Rg.lm 38 (.int .i64 (((k+1):Nat):Int)) ?_;go_frame;refine Rg.lr 39 (exec_bin (R:=.int .i64 (((k+1+1):Nat):Int)) .add _ _ _ rfl rfl rfl (b_add _ (by omega) (by omega))) ?_;go_frame;refine Rg.la 9 (.int .i64 (((k+1+1):Nat):Int)) ?_;go_frame;go_wp2
      go_roundw
      case rel=>exact ⟨k+1,_,Bs++[y],by go_num,HKD.out,AM9,ι (BO.out.snoc HLB.out)⟩
      case measure=>simp [intOf]; have:=HKD.out; omega
     case neg =>
      have hDk:D=k+1:=by omega
      have BO2:=ι (show Bk.BsOk D gs.length (img gs) Bs (D - 1) by rw [show D - 1=k by omega]; exact BO.out);go_upto_region 13 with (fail);refine wp_region_list ?_;refine Rg.lm 34 (.int .i64 (((k+1):Nat):Int)) ?_;go_frame;refine Rg.lr 35 (exec_fieldG0 _ rfl rfl) ?_;go_frame;refine Rg.lr 36 (Rg.exec_load (v:=.int .i64 ((D:Nat):Int)) _ _ rfl ⟨gb,0,none⟩ rfl (run_loadInt GD.out.c0)) ?_;go_frame;refine Rg.lr 37 (exec_bin (R:=.bool false) .lss _ _ _ rfl rfl rfl (b_lss _ (decide_eq_false (by omega)))) ?_;go_frame;go_upto_region 16 with (fail);refine wp_region_list ?_;refine Rg.la 10 (.int .i64 ((0:Nat):Int)) ?_;go_frame;obtain ⟨fv0,hfv⟩:∃ v,Value.slice (some ⟨fb,0,none⟩) 1 1=v:=⟨_,rfl⟩;have AJ0:=ι (Bk.AJ.start (Bs:=Bs) HF0.out);have HBL:=ι BO2.out.1;clear BO GD hfv fv0 hkD hDk;go_wp2
      go_loopw [7,10] (fun fv iv wr=>∃ (i:Nat) (F:Nat→Prop) (T:List (List Nat)),iv=.int .i64 ((i:Nat):Int)∧i≤T.length∧Hid (AlM w3 wr F mr fv (.slice ba Bs.length bc) T Bs)∧Hid (Bk.AJ D gs.length (img gs) Bs T i 0)) (fun _ iv _=>200001 - (intOf iv).toNat)
      case atStart=>exact ⟨0,_,_,rfl,Nat.zero_le _,AM,AJ0⟩
      case round =>
       clear AM AJ0;obtain ⟨i,F,T,rfl,hi,AM,AJ⟩:=hrel;obtain ⟨fa,fc,hsh⟩:=AM.out.row.shape;rw [List.length_map] at hsh;subst hsh;generalize wr=wd at *;have hTm:=HBD.out T AJ.out.nd AJ.out.rc
       by_cases hiT:i<T.length
       case neg =>
        have HTM:=ι hTm;clear hTm;go_upto_region 17 with (fail);refine wp_region_list ?_;refine Rg.lm 48 (.int .i64 ((i:Nat):Int)) ?_;go_frame;refine Rg.lm 49 (.slice fa T.length fc) ?_;go_frame;refine Rg.lr 50 (exec_len _ _ _ rfl Tryz.underlying27 _ _ _ rfl) ?_;go_frame;refine Rg.lr 51 (exec_bin (R:=.bool false) .lss _ _ _ rfl rfl rfl (b_lss _ (decide_eq_false (by omega)))) ?_;go_frame;have HALL:=ι (AJ.out.done hD1 (img_lt HGG.out) (by omega) BO2.out)
        have hT0:T≠[]:=fun e=>by obtain ⟨z,hz,_⟩:=AJ.out.one; rw [e] at hz; cases hz
        obtain ⟨sb,sc,hsh,hsort⟩:=AM.out.sp.sorted2 hT0 HTM.out;have HSO:=ι hsort
        injection hsh with e1 e2 e3
        subst e1 e3;clear hsort e2 hT0;go_upto_region 27 with (fail);refine wp_region_list ?_;refine Rg.la 14 (.func (.func 90) #[] #[]) ?_;go_frame;go_upto_region 28 with (fail);refine wp_region_list ?_;refine Rg.lm 80 (.slice (some ⟨sb,0,none⟩) T.length fc) ?_;go_frame;refine Rg.lm 81 (.func (.func 90) #[] #[]) ?_;go_frame;refine list_ask (some 82) rfl rfl _ _ (exec_fn 91 _ _ _ rfl rfl rfl (Hlcl4 _ _)) ?_;refine (HSO.out).mono ?_;rintro e1 w101 ⟨rfl,T',hT',hB⟩;have KD:=ι (Rg.acc HWB.out hB);refine ⟨_,rfl,?_⟩;go_frame;clear hB;go_upto_region 29 with (fail);refine wp_region_list ?_;refine Rg.lm 83 (.slice (some ⟨sb,0,none⟩) T.length fc) ?_;go_frame;refine Rg.la 2 (.slice (some ⟨sb,0,none⟩) T.length fc) ?_;go_frame;refine Rg.la 3 (.int .i64 ((0:Nat):Int)) ?_;go_frame;go_wp2
        go_ret2
        refine ⟨KD.out,.inr ⟨HZ.out,D,gs,rfl,rfl,.inr (.inr ⟨htb.out,hD24,T',_,rfl,hT'.out.2.2,⟨hT'.out.1.nodup_iff.2 HALL.out.1,fun y=>hT'.out.1.mem_iff.trans (HALL.out.2 y)⟩,hT'.out.2.1⟩)⟩⟩
       case pos =>
        have HIT0:=ι hiT;have HI0:=ι (show i≤200000 by omega);clear hTm;go_upto_region 17 with (fail);refine wp_region_list ?_;refine Rg.lm 48 (.int .i64 ((i:Nat):Int)) ?_;go_frame;refine Rg.lm 49 (.slice fa T.length fc) ?_;go_frame;refine Rg.lr 50 (exec_len _ _ _ rfl Tryz.underlying27 _ _ _ rfl) ?_;go_frame;refine Rg.lr 51 (exec_bin (R:=.bool true) .lss _ _ _ rfl rfl rfl (b_lss _ (decide_eq_true (by omega)))) ?_;go_frame;go_upto_region 19 with (fail);refine wp_region_list ?_;refine Rg.lm 54 (.slice ba Bs.length bc) ?_;go_frame;refine Rg.lr 55 (exec_len _ _ _ rfl Tryz.underlying27 _ _ _ rfl) ?_;go_frame;refine Rg.lm 56 (.int .i64 ((0:Nat):Int)) ?_;go_frame;obtain ⟨x,hx⟩:∃ x,Hid (T[i]'hiT=x):=⟨_,ι rfl⟩;have HIX:=ι (show T[i]?=some x by rw [List.getElem?_eq_getElem hiT,hx.out]);have HGX:=ι ((AJ.out.rc x (by rw [← hx.out]; exact List.getElem_mem hiT)).inv (img_lt HGG.out)).2.1
        clear hx hi hiT HIT0;go_wp2
        go_loopw [7,56] (fun fv jv wr=>∃ (j:Nat) (F:Nat→Prop) (T:List (List Nat)),jv=.int .i64 ((j:Nat):Int)∧j≤Bs.length∧Hid (AlM w3 wr F mr fv (.slice ba Bs.length bc) T Bs)∧Hid (Bk.AJ D gs.length (img gs) Bs T i j)∧Hid (T[i]?=some x)) (fun _ jv _=>Bs.length - (intOf jv).toNat)
        case atStart=>exact ⟨0,_,_,rfl,Nat.zero_le _,AM,AJ,HIX⟩
        case round =>
         clear AM AJ HIX;obtain ⟨j,F,T,rfl,hj,AM,AJ,HIX⟩:=hrel;obtain ⟨fa,fc,hsh⟩:=AM.out.row.shape;rw [List.length_map] at hsh;subst hsh;generalize wr=wd at *;have HIT:=ι (List.getElem?_eq_some_iff.1 HIX.out).1;have HTX:=ι (show T[i]'HIT.out=x from (List.getElem?_eq_some_iff.1 HIX.out).2)
         by_cases hjB:j<Bs.length
         case neg =>
          have hi2:i≤200000:=HI0.out;go_upto_region 20 with (fail);refine wp_region_list ?_;refine Rg.lr 57 (exec_bin (R:=.bool false) .lss _ _ _ rfl rfl rfl (b_lss _ (decide_eq_false (by omega)))) ?_;go_frame;go_upto_region 18 with (fail);refine wp_region_list ?_;refine Rg.lm 52 (.int .i64 ((i:Nat):Int)) ?_;go_frame;refine Rg.lr 53 (exec_bin (R:=.int .i64 (((i+1):Nat):Int)) .add _ _ _ rfl rfl rfl (b_add _ (by omega) (by omega))) ?_;go_frame;refine Rg.la 10 (.int .i64 (((i+1):Nat):Int)) ?_;go_frame;go_wp2
          go_roundw
          case rel=>exact ⟨i+1,_,_,by go_num,HIT.out,AM,ι (AJ.out.next (by omega))⟩
          case measure=>simp [intOf]; have:=HI0.out; omega
         case pos =>
          obtain ⟨bb,bc2,bu,e1,e2,e3,e4,e5⟩:=AM.out.base.at (i:=j) (by rw [List.length_map]; exact hjB);rw [List.length_map] at e1
          injection e1 with e1 _ e6
          subst e1 e6;rw [List.getElem_map] at e5;obtain ⟨fb2,fc2,xu,d1,d2,d3,d4,d5⟩:=AM.out.row.at (i:=i) (by rw [List.length_map]; exact HIT.out);rw [List.length_map] at d1
          injection d1 with d1 _ d6
          subst d1 d6;rw [List.getElem_map,HTX.out] at d5;obtain ⟨b,hb⟩:∃ b,Hid (Bs[j]'hjB=b):=⟨_,ι rfl⟩;rw [hb.out] at e5;have HBJ:=ι (show Bs[j]?=some b by rw [List.getElem?_eq_getElem hjB,hb.out]);have HBP:=ι (BO2.out.2 j b HBJ.out);have CB:=ι (show CL wd bb (0+j) bu from ⟨by rw [Nat.zero_add]; exact e4,e3⟩);have CX:=ι (show CL wd fb2 (0+i) xu from ⟨by rw [Nat.zero_add]; exact d4,d3⟩);have XV:=ι (show FiW F wd xu x from ⟨d5⟩);have BV:=ι (show FiW F wd bu b from ⟨e5⟩);have GD:=ι (GB.out.below AM.out.bel);have HJ:=ι hjB;have hiT:i<T.length:=HIT.out
          have hbl2:Bs.length≤64:=by rw [HBL.out]; omega
          clear e2 e3 e4 e5 d2 d3 d4 d5;go_upto_region 20 with (fail);refine wp_region_list ?_;refine Rg.lr 57 (exec_bin (R:=.bool true) .lss _ _ _ rfl rfl rfl (b_lss _ (decide_eq_true (by omega)))) ?_;go_frame;go_upto_region 21 with (fail);refine wp_region_list ?_;refine Rg.lr 58 (exec_indexS slIntss _ _ rfl bb (0) (Bs.length) bc (j) rfl rfl hjB) ?_;go_frame;refine Rg.lr 59 (Rg.exec_load (v:=bu) _ _ rfl ⟨bb,0+j,none⟩ rfl (Rg.run_loadSl _ _ Tryz.underlying36 CB.out.cell)) ?_;go_frame;refine Rg.la 12 (bu) ?_;go_frame;go_upto_region 22 with (fail);have hV0:Below wd.heap.size wd wd.drew:=(Below.refl _ _).drew;replace AM:=ι (AM.out.up hV0);replace CB:=ι (CB.out.up hV0);replace CX:=ι (CX.out.up hV0);replace XV:=ι (XV.out.up hV0);replace BV:=ι (BV.out.up hV0);replace GD:=ι (GD.out.up hV0);generalize Fup F wd wd.drew=F51 at *;clear hV0;refine Rg.Any.begin (S:=Rg.Both 7 (fun _=>True) (fun W=>Below wd.drew.heap.size wd.drew W)) mix ?_
          generalize wd.drew=w171 at *;have hS:∀ (l:Array Bool) W,Below w171.heap.size w171 W→Rg.Both 7 (fun _=>True) (fun W=>Below w171.heap.size w171 W) l W:=fun l W h=>⟨.inr trivial,h⟩;have hI:Below w171.heap.size w171 w171:=Below.refl _ _;refine Rg.tg 0 7 (.agg #[.int .i64 ((D:Nat):Int),.slice ga (gs.map Ma.ofN).length gc]) 60 rfl rfl (Rg.yields_cell _ _ rfl rfl ⟨gb,0,none⟩ rfl (fun W hW=>run_loadG ((Below.cell (p:=⟨gb,0,none⟩) hW GD.out.lt).trans GD.out.c0) ((Below.cell (p:=⟨gb,1,none⟩) hW GD.out.lt).trans GD.out.c1))) (hS _ _ hI) ?_;go_frame;refine Rg.tm 1 7 (.slice (some ⟨fb2,0,none⟩) T.length fc) 61 (hS _ _ hI) ?_;go_frame;refine Rg.tm 2 7 (.int .i64 ((i:Nat):Int)) 62 (hS _ _ hI) ?_;go_frame;refine Rg.tg 3 7 (.pointer (some ⟨fb2,0+i,none⟩)) 63 rfl rfl (Rg.yields_index slIntss _ _ rfl rfl fb2 (0) (T.length) fc (i) rfl rfl hiT) (hS _ _ hI) ?_;go_frame
          refine Rg.tg 4 7 (xu) 64 rfl rfl (Rg.yields_cell _ _ rfl rfl ⟨fb2,0+i,none⟩ rfl (fun W hW=>Rg.run_loadSl _ _ Tryz.underlying36 ((Below.cell (p:=⟨fb2,0+i,none⟩) hW CX.out.lt).trans CX.out.cell))) (hS _ _ hI) ?_;go_frame;refine Rg.tm 5 7 (bu) 65 (hS _ _ hI) ?_;go_frame;refine Rg.Any.one (i:=6) (by kernel_rfl) (Rg.Any.ask (some 66) rfl rfl rfl _ _ (exec_fn3 89 _ _ _ _ rfl rfl rfl rfl (Hlcl5 _ _)) ?_);refine (bjoinedF D _ _ _ gs x b w171 hD1 hD2 GD.out.rows HGG.out (by omega) XV.out.np BV.out.np HGX.out HBP.out.len).mono ?_;rintro e1 w172 ⟨yb,y,rfl,hlr,hlab,hb⟩;have HYL:=ι hlab;have hyv:=hlr.fiw (F:=F51) (by omega);clear hlab hlr;have hI2_u:=Rg.acc hI hb;clear hI;replace AM:=ι (AM.out.up hb);replace CB:=ι (CB.out.up hb);replace CX:=ι (CX.out.up hb);replace XV:=ι (XV.out.up hb);replace BV:=ι (BV.out.up hb);replace GD:=ι (GD.out.up hb);have YV:=ι hyv
          generalize Fup F51 w171 w172=F52 at *;clear hb;refine ⟨_,rfl,(hS _ _ hI2_u),?_⟩;go_frame;refine Rg.Any.one (i:=7) (by kernel_rfl) (Rg.Any.run (some 13) rfl rfl rfl (Rg.xa (.slice (some ⟨yb,0,none⟩) D D) _ rfl rfl) (hS _ _ hI2_u) ?_);go_frame;refine Rg.Any.done (by kernel_rfl) ?_ _;clear hS hI2_u;clear hyv;have GKY:=ι (show GK D y from rgc_gk hD2 HYL.out.len HYL.out.rg)
          have GKT:=ι (show ∀ q∈T,GK D q from fun q hq=>by
           obtain ⟨_,q2,q3⟩:=(AJ.out.rc q hq).inv (img_lt HGG.out)
           exact rgc_gk hD2 q2 q3)
          clear CB CX XV BV GD;obtain ⟨bm,hbm⟩:∃ b,Hid (decide (y∈T)=b):=⟨_,ι rfl⟩
          cases bm
          case true =>
           skip
           go_upto_region 23 with (fail);refine wp_region_list ?_;refine Rg.lm 67 ((.map (some mr))) ?_;go_frame;refine Rg.lm 68 (.slice (some ⟨yb,0,none⟩) D D) ?_;go_frame;refine list_ask (some 69) rfl rfl _ _ (exec_fn1 88 _ _ rfl rfl (Hlcl3 _ _)) ?_;refine (bpacked_any _ y w172 (Rg.FI.ints YV.out.fi) (by rw [HYL.out.len]; exact hD2) GKY.out.2.2).mono ?_;rintro e1 w173 ⟨rfl,hb⟩;refine ⟨_,rfl,?_⟩;go_frame;replace AM:=ι (AM.out.up hb);replace YV:=ι (YV.out.up hb);generalize Fup F52 w172 w173=F53 at *;clear hb;refine Rg.lr 70 (Rg.exec_lookup _ _ _ _ rfl _ _ rfl rfl ((look_run AM.out.mp GKT.out GKY.out).trans (by rw [hbm.out]))) ?_;go_frame;refine Rg.lr 71 (exec_not _ _ true rfl rfl) ?_;go_frame;go_upto_region 26 with (fail);refine wp_region_list ?_;refine Rg.lr 79 (exec_bin (R:=.int .i64 (((j+1):Nat):Int)) .add _ _ _ rfl rfl rfl (b_add _ (by omega) (by omega))) ?_;go_frame
           refine Rg.lm 56 (.int .i64 (((j+1):Nat):Int)) ?_;go_frame;go_wp2
           go_roundw
           case rel=>exact ⟨j+1,_,_,by go_num,HJ.out,AM,ι (AJ.out.hit HIX.out HBJ.out HYL.out (of_decide_eq_true hbm.out)),HIX⟩
           case measure=>simp [intOf]; have:=HJ.out; omega
          case false =>
           skip
           go_upto_region 23 with (fail);refine wp_region_list ?_;refine Rg.lm 67 ((.map (some mr))) ?_;go_frame;refine Rg.lm 68 (.slice (some ⟨yb,0,none⟩) D D) ?_;go_frame;refine list_ask (some 69) rfl rfl _ _ (exec_fn1 88 _ _ rfl rfl (Hlcl3 _ _)) ?_;refine (bpacked_any _ y w172 (Rg.FI.ints YV.out.fi) (by rw [HYL.out.len]; exact hD2) GKY.out.2.2).mono ?_;rintro e1 w183 ⟨rfl,hb⟩;refine ⟨_,rfl,?_⟩;go_frame;replace AM:=ι (AM.out.up hb);replace YV:=ι (YV.out.up hb);generalize Fup F52 w172 w183=F53 at *;clear hb;refine Rg.lr 70 (Rg.exec_lookup _ _ _ _ rfl _ _ rfl rfl ((look_run AM.out.mp GKT.out GKY.out).trans (by rw [hbm.out]))) ?_;go_frame;refine Rg.lr 71 (exec_not _ _ false rfl rfl) ?_;go_frame;have hTm:=HBD.out T AJ.out.nd AJ.out.rc;have HTM:=ι hTm;clear hTm;go_upto_region 24 with (fail);refine wp_region_list ?_;refine Rg.lm 72 ((.map (some mr))) ?_;go_frame;refine Rg.lm 73 (.slice (some ⟨yb,0,none⟩) D D) ?_;go_frame
           refine list_ask (some 74) rfl rfl _ _ (exec_fn1 88 _ _ rfl rfl (Hlcl3 _ _)) ?_;refine (bpacked_any _ y w183 (Rg.FI.ints YV.out.fi) (by rw [HYL.out.len]; exact hD2) GKY.out.2.2).mono ?_;rintro e1 w184 ⟨rfl,hb⟩;refine ⟨_,rfl,?_⟩;go_frame;replace AM:=ι (AM.out.up hb);replace YV:=ι (YV.out.up hb);generalize Fup F53 w183 w184=F54 at *;clear hb;obtain ⟨X8,p1,a8,c8,Y8,p2,ham⟩:=AM.out.put GKT.out GKY.out (of_decide_eq_false hbm.out) YV.out.fi ⟨_,_,_,rfl⟩ (by have:=HTM.out; omega) 27;refine Rg.list_skip none rfl rfl (Rg.exec_mapUpdate _ _ _ _ rfl _ _ _ rfl rfl rfl p1) ?_;go_frame;go_upto_region 25 with (fail);refine wp_region_list ?_;refine Rg.lm 75 (.slice (some ⟨fb2,0,none⟩) T.length fc) ?_;go_frame;refine Rg.lm 76 (.slice (some ⟨yb,0,none⟩) D D) ?_;go_frame;refine Rg.lr 77 (Rg.exec_buildSlice _ _ _ rfl (.slice (some ⟨yb,0,none⟩) D D) rfl (run_build1L X8 _ ⟨_,_,_,rfl⟩)) ?_;go_frame
           refine Rg.lr 78 (Rg.exec_append _ _ _ rfl rfl rfl p2) ?_;go_frame;refine Rg.la 7 (.slice a8 (T.length+1) c8) ?_;go_frame;have AM9:=ι ham;have AJ9:=ι (AJ.out.new HIX.out HBJ.out HYL.out (of_decide_eq_false hbm.out) (p:=j+1) (by have:=HJ.out; have:=HBL.out; omega) HBP.out);have HIX9:=ι (show (T++[y])[i]?=some x by rw [List.getElem?_append_left HIT.out]; exact HIX.out);clear p1 p2 ham AM YV;go_upto_region 26 with (fail);refine wp_region_list ?_;refine Rg.lr 79 (exec_bin (R:=.int .i64 (((j+1):Nat):Int)) .add _ _ _ rfl rfl rfl (b_add _ (by omega) (by omega))) ?_;go_frame;refine Rg.lm 56 (.int .i64 (((j+1):Nat):Int)) ?_;go_frame;go_wp2
           go_roundw
           case rel=>exact ⟨j+1,_,_,by go_num,HJ.out,AM9,AJ9,HIX9⟩
           case measure=>simp [intOf]; have:=HJ.out; omega

theorem two12_any (w:World):Calls Tryz.prog 84 #[] w (GPost 4 [[1,0,2,3],[0,1,3,2]] w):=by
 go_enter Tryz.func84,Tryz.ntmps84
 go_upto_region 1 with (fail);generalize hW:w.alloc (.cells #[.int .i64 0,.slice none 0 0] 24)=W0
 have hsz:W0.heap.size=w.heap.size+1:=by rw [← hW]; simp
 have hbW:Below w.heap.size w W0:=by rw [← hW]; exact (Below.refl _ _).alloc (Nat.le_refl _) _
 have hc1:W0.cell? ⟨w.heap.size,0,none⟩=some (.int .i64 0):=by rw [← hW,Rg.cellNew]; rfl
 have hc2:W0.cell? ⟨w.heap.size,1,none⟩=some (.slice none 0 0):=by rw [← hW,Rg.cellNew]; rfl
 have hf1:∀ o,W0.frozen? ⟨w.heap.size,o,none⟩=false:=fun o=>by rw [← hW]; exact frozenNewN _ _ _ 0 _
 clear hW;refine wp_region_list ?_;have i1:=ints_new W0 3 [1,0,2,3] (by decide);have b1:Below W0.heap.size W0 _:=(Below.refl W0.heap.size W0).alloc (Nat.le_refl _) (.cells (([1,0,2,3]:List Int).map (Value.int .i64)).toArray 3);refine Rg.lr 1 (exec_flat _ _ 4 _ rfl [1,0,2,3] Tryz.underlying51 szInt zInt rfl (by decide) (by decide) rfl) ?_;go_frame;generalize W0.alloc (.cells (([1,0,2,3]:List Int).map (Value.int .i64)).toArray 3)=W1 at *;have i2:=ints_new W1 3 [0,1,3,2] (by decide);have b2:Below W1.heap.size W1 _:=(Below.refl W1.heap.size W1).alloc (Nat.le_refl _) (.cells (([0,1,3,2]:List Int).map (Value.int .i64)).toArray 3);refine Rg.lr 2 (exec_flat _ _ 4 _ rfl [0,1,3,2] Tryz.underlying51 szInt zInt rfl (by decide) (by decide) rfl) ?_;go_frame;generalize W1.alloc (.cells (([0,1,3,2]:List Int).map (Value.int .i64)).toArray 3)=W2 at *
 have g3:=rowsF_new (B:=w.heap.size+1) (w:=W2) 51 [.slice (some ⟨W0.heap.size,0,none⟩) 4 4,.slice (some ⟨W1.heap.size,0,none⟩) 4 4] [[1,0,2,3],[0,1,3,2]] rfl (by simp) (by
  have s1:=b1.size;have s2:=b2.size;intro i h h2
  match i,h,h2 with
  | 0,_,_=>exact ⟨(i1.below b2),(Rg.Fresh.mk _ _ _ _).mono (by omega)⟩
  | 1,_,_=>exact ⟨i2,(Rg.Fresh.mk _ _ _ _).mono (by omega)⟩) (by have s1:=b1.size; have s2:=b2.size; omega)
 have bz:Below W2.heap.size W2 _:=(Below.refl W2.heap.size W2).alloc (Nat.le_refl _) (.cells #[.slice (some ⟨W0.heap.size,0,none⟩) 4 4,.slice (some ⟨W1.heap.size,0,none⟩) 4 4] 51);refine Rg.lr 3 (exec_buildP (u1:=.slice (some ⟨W0.heap.size,0,none⟩) 4 4) (u2:=.slice (some ⟨W1.heap.size,0,none⟩) 4 4) _ _ rfl rfl rfl (run_buildP2 _ _ _ ⟨_,_,_,rfl⟩ ⟨_,_,_,rfl⟩)) ?_;go_frame;have hb3:=(Rg.acc b1 (Rg.acc b2 bz));clear bz b1 i1 b2 i2;have g4:RowsF (w.heap.size+1) (W2.alloc (.cells #[.slice (some ⟨W0.heap.size,0,none⟩) 4 4,.slice (some ⟨W1.heap.size,0,none⟩) 4 4] 51)) (.slice (some ⟨W2.heap.size,0,none⟩) 2 2) [[1,0,2,3],[0,1,3,2]]:=g3;clear g3;generalize W2.alloc (.cells #[.slice (some ⟨W0.heap.size,0,none⟩) 4 4,.slice (some ⟨W1.heap.size,0,none⟩) 4 4] 51)=Z at *;refine Rg.lr 4 (exec_buildG (d:=4) _ _ rfl rfl rfl) ?_;go_frame;obtain ⟨kc,kf⟩:=Rg.bcell hb3
 have lt1:w.heap.size<W0.heap.size:=by omega
 have r0:=(kc _ 0 lt1).trans hc1;have r1:=(kc _ 1 lt1).trans hc2;have rf:=fun o=>(kf _ o lt1).trans (hf1 o);obtain ⟨p0,p1,p2⟩:=group_set (.int .i64 4) (.slice (some ⟨W2.heap.size,0,none⟩) 2 2) r0 r1 (Rg.acc hbW hb3) (by omega);have hR:=((g4.set w.heap.size 0 (.int .i64 4) (by omega)).set w.heap.size 1 (.slice (some ⟨W2.heap.size,0,none⟩) 2 2) (by omega)).mono (B':=w.heap.size) (by omega);refine Rg.list_skip none rfl rfl (Rg.exec_store _ _ _ rfl _ rfl _ rfl (run_storeG 4 _ 2 2 r0 r1 (rf 0) (rf 1))) ?_;go_frame;generalize (Z.setCell ⟨w.heap.size,0,none⟩ (.int .i64 4)).setCell ⟨w.heap.size,1,none⟩ (.slice (some ⟨W2.heap.size,0,none⟩) 2 2)=W6 at *;have H:=ι (And.intro p0 (And.intro p1 (And.intro p2 hR)));clear hc1 hc2 hf1 kc kf r0 r1 rf p0 p1 p2 hR g4;go_wp2;exact bodyPost_ret (results_cellG rfl _ rfl H.out.1 H.out.2.1) rfl ⟨_,_,_,rfl,H.out.2.2.2,H.out.2.2.1⟩
theorem four12_any (w:World):Calls Tryz.prog 82 #[] w (GPost 4 [[1,2,3,0],[1,0,2,3]] w):=by
 go_enter Tryz.func82,Tryz.ntmps82
 go_upto_region 1 with (fail);generalize hW:w.alloc (.cells #[.int .i64 0,.slice none 0 0] 24)=W0
 have hsz:W0.heap.size=w.heap.size+1:=by rw [← hW]; simp
 have hbW:Below w.heap.size w W0:=by rw [← hW]; exact (Below.refl _ _).alloc (Nat.le_refl _) _
 have hc1:W0.cell? ⟨w.heap.size,0,none⟩=some (.int .i64 0):=by rw [← hW,Rg.cellNew]; rfl
 have hc2:W0.cell? ⟨w.heap.size,1,none⟩=some (.slice none 0 0):=by rw [← hW,Rg.cellNew]; rfl
 have hf1:∀ o,W0.frozen? ⟨w.heap.size,o,none⟩=false:=fun o=>by rw [← hW]; exact frozenNewN _ _ _ 0 _
 clear hW;refine wp_region_list ?_;have i1:=ints_new W0 3 [1,2,3,0] (by decide);have b1:Below W0.heap.size W0 _:=(Below.refl W0.heap.size W0).alloc (Nat.le_refl _) (.cells (([1,2,3,0]:List Int).map (Value.int .i64)).toArray 3);refine Rg.lr 1 (exec_flat _ _ 4 _ rfl [1,2,3,0] Tryz.underlying51 szInt zInt rfl (by decide) (by decide) rfl) ?_;go_frame;generalize W0.alloc (.cells (([1,2,3,0]:List Int).map (Value.int .i64)).toArray 3)=W1 at *;have i2:=ints_new W1 3 [1,0,2,3] (by decide);have b2:Below W1.heap.size W1 _:=(Below.refl W1.heap.size W1).alloc (Nat.le_refl _) (.cells (([1,0,2,3]:List Int).map (Value.int .i64)).toArray 3);refine Rg.lr 2 (exec_flat _ _ 4 _ rfl [1,0,2,3] Tryz.underlying51 szInt zInt rfl (by decide) (by decide) rfl) ?_;go_frame;generalize W1.alloc (.cells (([1,0,2,3]:List Int).map (Value.int .i64)).toArray 3)=W2 at *
 have g3:=rowsF_new (B:=w.heap.size+1) (w:=W2) 51 [.slice (some ⟨W0.heap.size,0,none⟩) 4 4,.slice (some ⟨W1.heap.size,0,none⟩) 4 4] [[1,2,3,0],[1,0,2,3]] rfl (by simp) (by
  have s1:=b1.size;have s2:=b2.size;intro i h h2
  match i,h,h2 with
  | 0,_,_=>exact ⟨(i1.below b2),(Rg.Fresh.mk _ _ _ _).mono (by omega)⟩
  | 1,_,_=>exact ⟨i2,(Rg.Fresh.mk _ _ _ _).mono (by omega)⟩) (by have s1:=b1.size; have s2:=b2.size; omega)
 have bz:Below W2.heap.size W2 _:=(Below.refl W2.heap.size W2).alloc (Nat.le_refl _) (.cells #[.slice (some ⟨W0.heap.size,0,none⟩) 4 4,.slice (some ⟨W1.heap.size,0,none⟩) 4 4] 51);refine Rg.lr 3 (exec_buildP (u1:=.slice (some ⟨W0.heap.size,0,none⟩) 4 4) (u2:=.slice (some ⟨W1.heap.size,0,none⟩) 4 4) _ _ rfl rfl rfl (run_buildP2 _ _ _ ⟨_,_,_,rfl⟩ ⟨_,_,_,rfl⟩)) ?_;go_frame;have hb3:=(Rg.acc b1 (Rg.acc b2 bz));clear bz b1 i1 b2 i2;have g4:RowsF (w.heap.size+1) (W2.alloc (.cells #[.slice (some ⟨W0.heap.size,0,none⟩) 4 4,.slice (some ⟨W1.heap.size,0,none⟩) 4 4] 51)) (.slice (some ⟨W2.heap.size,0,none⟩) 2 2) [[1,2,3,0],[1,0,2,3]]:=g3;clear g3;generalize W2.alloc (.cells #[.slice (some ⟨W0.heap.size,0,none⟩) 4 4,.slice (some ⟨W1.heap.size,0,none⟩) 4 4] 51)=Z at *;refine Rg.lr 4 (exec_buildG (d:=4) _ _ rfl rfl rfl) ?_;go_frame;obtain ⟨kc,kf⟩:=Rg.bcell hb3
 have lt1:w.heap.size<W0.heap.size:=by omega
 have r0:=(kc _ 0 lt1).trans hc1;have r1:=(kc _ 1 lt1).trans hc2;have rf:=fun o=>(kf _ o lt1).trans (hf1 o);obtain ⟨p0,p1,p2⟩:=group_set (.int .i64 4) (.slice (some ⟨W2.heap.size,0,none⟩) 2 2) r0 r1 (Rg.acc hbW hb3) (by omega);have hR:=((g4.set w.heap.size 0 (.int .i64 4) (by omega)).set w.heap.size 1 (.slice (some ⟨W2.heap.size,0,none⟩) 2 2) (by omega)).mono (B':=w.heap.size) (by omega);refine Rg.list_skip none rfl rfl (Rg.exec_store _ _ _ rfl _ rfl _ rfl (run_storeG 4 _ 2 2 r0 r1 (rf 0) (rf 1))) ?_;go_frame;generalize (Z.setCell ⟨w.heap.size,0,none⟩ (.int .i64 4)).setCell ⟨w.heap.size,1,none⟩ (.slice (some ⟨W2.heap.size,0,none⟩) 2 2)=W6 at *;have H:=ι (And.intro p0 (And.intro p1 (And.intro p2 hR)));clear hc1 hc2 hf1 kc kf r0 r1 rf p0 p1 p2 hR g4;go_wp2;exact bodyPost_ret (results_cellG rfl _ rfl H.out.1 H.out.2.1) rfl ⟨_,_,_,rfl,H.out.2.2.2,H.out.2.2.1⟩
theorem Max_any (v:Value) (l:List Nat) (w:World) (h:Rg.NP w v l) (h0:1≤l.length) (hl:l.length≤1000) (hx:∀ x∈l,x≤1000) :
  Calls Tryz.prog 95 #[v] w fun e w'=>∃ m:Nat,e=.returned (.int .i64 ((m:Nat):Int))∧m∈l∧(∀ x∈l,x≤m)∧Below w.heap.size w w':=by
 have HX:=ι hx;have HV:=ι (NpW.mk h)
 obtain ⟨b,o,c,rfl,hb,hcell⟩:∃ b o c,v=.slice (some ⟨b,o,none⟩) l.length c∧b<w.heap.size∧∀ i (hi:i<l.length),w.cell? ⟨b,o+i,none⟩=some (.int .i64 ((l[i]:Nat):Int)):=by
  obtain ⟨a,c,rfl,hc,hm,_,hcell⟩:=h.shape;obtain ⟨b,o,rfl,hb,hr⟩:=hcell (by omega);exact ⟨b,o,c,rfl,hb,hr⟩
 have HC:=ι (show ∀ i (hi:i<l.length),CL w b (o+i) (.int .i64 ((l[i]:Nat):Int)) from fun i hi=>⟨hcell i hi,hb⟩);clear h hx hcell hb;have K:=ι (Below.refl w.heap.size w);obtain ⟨x0,hx0⟩:∃ x,Hid (l[0]'h0=x):=⟨_,ι rfl⟩;have C0:=ι (show CL w b (o+0) (.int .i64 ((x0:Nat):Int)) by rw [← hx0.out]; exact HC.out 0 h0)
 go_enter Tryz.func95,Tryz.ntmps95
 go_upto_region 0 with (fail);refine wp_region_list ?_;refine Rg.la 2 (.int .i64 ((0:Nat):Int)) ?_;go_frame;go_upto_region 1 with (fail);refine wp_region_list ?_;refine Rg.lm 5 (.slice (some ⟨b,o,none⟩) l.length c) ?_;go_frame;refine Rg.lr 6 (exec_len _ _ _ rfl Tryz.underlying36 _ _ _ rfl) ?_;go_frame;refine Rg.lr 7 (exec_bin (R:=.bool false) .lss _ _ _ rfl rfl rfl (b_lss _ (decide_eq_false (by omega)))) ?_;go_frame;go_upto_region 3 with (fail);refine wp_region_list ?_;refine Rg.lm 9 (.slice (some ⟨b,o,none⟩) l.length c) ?_;go_frame;refine Rg.lr 10 (exec_indexS slInts _ _ rfl b (o) (l.length) c (0) rfl rfl h0) ?_;go_frame;refine Rg.lr 11 (Rg.exec_load (v:=.int .i64 ((x0:Nat):Int)) _ _ rfl ⟨b,o+0,none⟩ rfl (run_loadInt C0.out.cell)) ?_;go_frame;refine Rg.la 3 (.int .i64 ((x0:Nat):Int)) ?_;go_frame;go_upto_region 4 with (fail);refine wp_region_list ?_;refine Rg.la 4 (.int .i64 ((1:Nat):Int)) ?_;go_frame
 have MX:=ι (show x0∈l.take 1∧∀ x∈l.take 1,x≤x0 by
  have e:l.take 1=[x0]:=by
   rw [List.take_succ_eq_append_getElem h0,List.take_zero,hx0.out]; rfl
  rw [e]; exact ⟨List.mem_singleton.2 rfl,fun x hx=>by rw [List.mem_singleton.1 hx]; exact Nat.le_refl _⟩)
 clear C0;go_wp2
 go_loopw [3,4] (fun mv iv wr=>∃ m i:Nat,mv=.int .i64 ((m:Nat):Int)∧iv=.int .i64 ((i:Nat):Int)∧i≤l.length∧1≤i∧Hid (m∈l.take i∧∀ x∈l.take i,x≤m)∧Hid (Below w.heap.size w wr)) (fun _ iv _=>l.length - (intOf iv).toNat)
 case atStart=>exact ⟨x0,1,rfl,rfl,h0,Nat.le_refl _,MX,K⟩
 case round =>
  clear MX K;obtain ⟨m,i,rfl,rfl,hi,hi1,MX,K⟩:=hrel;generalize wr=wd at *
  by_cases hil:i<l.length
  case neg =>
   obtain rfl:i=l.length:=by omega
   go_upto_region 5 with (fail);refine wp_region_list ?_;refine Rg.lm 12 (.int .i64 ((l.length:Nat):Int)) ?_;go_frame;refine Rg.lm 13 (.slice (some ⟨b,o,none⟩) l.length c) ?_;go_frame;refine Rg.lr 14 (exec_len _ _ _ rfl Tryz.underlying36 _ _ _ rfl) ?_;go_frame;refine Rg.lr 15 (exec_bin (R:=.bool false) .lss _ _ _ rfl rfl rfl (b_lss _ (decide_eq_false (by omega)))) ?_;go_frame;go_upto_region 8 with (fail);refine wp_region_list ?_;refine Rg.lm 24 (.int .i64 ((m:Nat):Int)) ?_;go_frame;refine Rg.la 2 (.int .i64 ((m:Nat):Int)) ?_;go_frame;go_wp2;go_ret;obtain ⟨m1,m2⟩:=MX.out;rw [List.take_length] at m1 m2;exact ⟨m,rfl,m1,m2,K.out⟩
  case pos =>
   obtain ⟨t,ht⟩:∃ t,Hid (l[i]'hil=t):=⟨_,ι rfl⟩;have CT:=ι (show CL wd b (o+i) (.int .i64 ((t:Nat):Int)) by rw [← ht.out]; exact (HC.out i hil).up K.out);obtain ⟨q,hq⟩:∃ q,Hid ((if m<t then t else m)=q):=⟨_,ι rfl⟩
   have HQ:=ι (show (if ((m:Nat):Int)<((t:Nat):Int) then ((t:Nat):Int) else ((m:Nat):Int))=((q:Nat):Int) by
    rw [← hq.out]
    by_cases h:m<t
    ·rw [if_pos h,if_pos (by omega)]
    ·rw [if_neg h,if_neg (by omega)])
   have MX2:=ι (show q∈l.take (i+1)∧∀ x∈l.take (i+1),x≤q by
    obtain ⟨m1,m2⟩:=MX.out;rw [List.take_succ_eq_append_getElem hil,ht.out,← hq.out]
    by_cases h:m<t
    ·rw [if_pos h]
     refine ⟨List.mem_append_right _ (List.mem_singleton.2 rfl),fun x hx=>?_⟩
     rcases List.mem_append.1 hx with hx | hx
     ·have:=m2 x hx; omega
     ·rw [List.mem_singleton.1 hx]; exact Nat.le_refl _
    ·rw [if_neg h]
     refine ⟨List.mem_append_left _ m1,fun x hx=>?_⟩
     rcases List.mem_append.1 hx with hx | hx
     ·exact m2 x hx
     ·rw [List.mem_singleton.1 hx]; omega)
   have hil2:=ι hil;go_upto_region 5 with (fail);refine wp_region_list ?_;refine Rg.lm 12 (.int .i64 ((i:Nat):Int)) ?_;go_frame;refine Rg.lm 13 (.slice (some ⟨b,o,none⟩) l.length c) ?_;go_frame;refine Rg.lr 14 (exec_len _ _ _ rfl Tryz.underlying36 _ _ _ rfl) ?_;go_frame;refine Rg.lr 15 (exec_bin (R:=.bool true) .lss _ _ _ rfl rfl rfl (b_lss _ (decide_eq_true (by omega)))) ?_;go_frame;go_upto_region 7 with (fail);refine wp_region_list ?_;refine Rg.lm 18 (.int .i64 ((m:Nat):Int)) ?_;go_frame;refine Rg.lm 19 (.slice (some ⟨b,o,none⟩) l.length c) ?_;go_frame;refine Rg.lm 20 (.int .i64 ((i:Nat):Int)) ?_;go_frame;refine Rg.lr 21 (exec_indexS slInts _ _ rfl b (o) (l.length) c (i) rfl rfl hil) ?_;go_frame;refine Rg.lr 22 (Rg.exec_load (v:=.int .i64 ((t:Nat):Int)) _ _ rfl ⟨b,o+i,none⟩ rfl (run_loadInt CT.out.cell)) ?_;go_frame;refine Rg.lr 23 (exec_maxE (r:=((q:Nat):Int)) _ _ _ rfl rfl rfl HQ.out) ?_;go_frame
   refine Rg.la 3 (.int .i64 ((q:Nat):Int)) ?_;go_frame;go_upto_region 6 with (fail);refine wp_region_list ?_;refine Rg.lm 16 (.int .i64 ((i:Nat):Int)) ?_;go_frame;refine Rg.lr 17 (exec_bin (R:=.int .i64 (((i+1):Nat):Int)) .add _ _ _ rfl rfl rfl (b_add _ (by omega) (by omega))) ?_;go_frame;refine Rg.la 4 (.int .i64 (((i+1):Nat):Int)) ?_;go_frame;go_wp2
   go_roundw
   case rel=>exact ⟨q,i+1,rfl,by go_num,hil2.out,by omega,MX2,K⟩
   case measure=>simp [intOf]; have:=hil2.out; omega
def cyl (n:Nat):List Nat:=(List.range n).map fun i=>(i+1) % n
structure ZG (w:World) (b:Nat):Prop where
 lt:b<w.heap.size
 c0:w.cell? ⟨b,0,none⟩=some (.int .i64 0)
 c1:w.cell? ⟨b,1,none⟩=some (.slice none 0 0)
 fr:∀ o,w.frozen? ⟨b,o,none⟩=false
theorem ZG.kp {M:Nat→Prop} {w w':World} {b:Nat} (h:ZG w b) (hk:Rg.Kp M w w') (hM:¬ M b):ZG w' b :=
 ⟨Nat.lt_of_lt_of_le h.lt hk.size,(World.cell?_of_block (a:=⟨b,0,none⟩) (hk.block b h.lt hM)).trans h.c0,(World.cell?_of_block (a:=⟨b,1,none⟩) (hk.block b h.lt hM)).trans h.c1,fun o=>(World.frozen?_of_block (a:=⟨b,o,none⟩) (hk.block b h.lt hM)).trans (h.fr o)⟩
theorem ZG.below {w w':World} {b:Nat} (h:ZG w b) (hb:Below w.heap.size w w'):ZG w' b:=h.kp (M:=fun _=>False) (Rg.Kp.of_below hb) id
theorem ZG.new (w:World):ZG (w.alloc (.cells #[.int .i64 0,.slice none 0 0] 24)) w.heap.size:=⟨by simp,by rw [Rg.cellNew]; rfl,by rw [Rg.cellNew]; rfl,fun o=>frozenNewN _ _ _ 0 _⟩
theorem cyclic_any (n:Nat) (w:World) (h1:1≤n) (hn:n≤1000) :
  Calls Tryz.prog 81 #[.int .i64 ((n:Nat):Int)] w fun e w'=>∃ a c,e=.returned (.agg #[.int .i64 ((n:Nat):Int),.slice a 1 c])∧Rg.Rows w' (.slice a 1 c) ([cyl n].map Ma.ofN)∧Below w.heap.size w w':=by
 go_enter Tryz.func81,Tryz.ntmps81
 go_upto_region 1 with (fail);have hzg:=ZG.new w;have hbz:Below w.heap.size w (w.alloc (.cells #[.int .i64 0,.slice none 0 0] 24)):=(Below.refl _ _).alloc (Nat.le_refl _) _;obtain ⟨rb,hrb⟩:∃ b,w.heap.size=b:=⟨_,rfl⟩;rw [hrb] at hzg ⊢;have HRB:=ι hrb;generalize w.alloc (.cells #[.int .i64 0,.slice none 0 0] 24)=w0 at *;have ZF:=ι hzg;have K:=ι hbz;clear hzg hbz hrb;refine wp_region_list ?_;refine Rg.lm 5 (.int .i64 ((n:Nat):Int)) ?_;go_frame;refine list_ask (some 6) rfl rfl _ _ (exec_fn1 101 _ _ rfl rfl (Zkcl0 _ _)) ?_;refine (kitOne_row n w0 h1 hn).mono ?_;rintro e1 w1 ⟨g,cap,rfl,hg1,hg2,hg3,hg4,hb⟩;have HC:=ι (And.intro hg2 hg3);have HGL:=ι (show rb<g from Nat.lt_of_lt_of_le ZF.out.lt hg1);clear hg1 hg2 hg3;refine ⟨_,rfl,?_⟩;go_frame;replace ZF:=ι (ZF.out.below hb);replace K:=ι (Rg.acc K.out hb);clear hb;have RW0:=ι hg4;refine Rg.la 3 (.slice (some ⟨g,0,none⟩) n cap) ?_;go_frame
 clear hg4;go_upto_region 2 with (fail);refine wp_region_list ?_;refine Rg.la 4 (.int .i64 ((0:Nat):Int)) ?_;go_frame;have RW:=ι (RW0.out.congr (f':=fun i=>if i<0 then (((i+1) % n:Nat):Int) else ((i:Nat):Int)) (fun i _=>(if_neg (Nat.not_lt_zero i)).symm));clear RW0;go_wp2
 go_loopw [4] (fun kv wr=>∃ k:Nat,kv=.int .i64 ((k:Nat):Int)∧k≤n∧Hid (RwAt wr g n (fun i=>if i<k then (((i+1) % n:Nat):Int) else ((i:Nat):Int)))∧Hid (ZG wr rb)∧Hid (Below w.heap.size w wr)) (fun kv _=>n - (intOf kv).toNat)
 case atStart=>exact ⟨0,rfl,Nat.zero_le _,RW,ZF,K⟩
 case round =>
  clear RW ZF K;obtain ⟨k,rfl,hk,RW,ZF,K⟩:=hrel;generalize wr=wd at *
  by_cases hkn:k<n
  case pos =>
   have HKN:=ι hkn
   have C1:=ι (show wd.cell? ⟨g,0+k,none⟩=some (.int .i64 ((k:Nat):Int)) by
    rw [Nat.zero_add];have h:=RW.out.2.1 k hkn
    dsimp only at h
    rwa [if_neg (Nat.lt_irrefl _)] at h)
   have F1:=ι (show wd.frozen? ⟨g,0+k,none⟩=false by rw [Nat.zero_add]; exact RW.out.2.2 k);obtain ⟨q,hq⟩:∃ q,Hid ((k+1) % n=q):=⟨_,ι rfl⟩;have HQ:=ι (show (((k+1:Nat):Nat):Int).tmod ((n:Nat):Int)=((q:Nat):Int) by rw [← hq.out]; exact Int.ofNat_tmod (k+1) n)
   have hqn:q<n:=by rw [← hq.out]; exact Nat.mod_lt _ (by omega)
   go_upto_region 3 with (fail);refine wp_region_list ?_;refine Rg.lm 7 (.int .i64 ((k:Nat):Int)) ?_;go_frame;refine Rg.lm 8 (.int .i64 ((n:Nat):Int)) ?_;go_frame;refine Rg.lr 9 (exec_bin (R:=.bool true) .lss _ _ _ rfl rfl rfl (b_lss _ (decide_eq_true (by omega)))) ?_;go_frame;go_upto_region 5 with (fail);refine wp_region_list ?_;refine Rg.lm 12 (.slice (some ⟨g,0,none⟩) n cap) ?_;go_frame;refine Rg.lm 13 (.int .i64 ((k:Nat):Int)) ?_;go_frame;refine Rg.lm 14 (.int .i64 ((k:Nat):Int)) ?_;go_frame;refine Rg.lr 15 (exec_bin (R:=.int .i64 (((k+1):Nat):Int)) .add _ _ _ rfl rfl rfl (b_add _ (by omega) (by omega))) ?_;go_frame;refine Rg.lm 16 (.int .i64 ((n:Nat):Int)) ?_;go_frame;refine Rg.lr 17 (exec_bin (R:=.int .i64 ((q:Nat):Int)) .rem _ _ _ rfl rfl rfl (b_rem _ (by omega) HQ.out (by omega))) ?_;go_frame;refine Rg.lr 18 (exec_indexS slPerm _ _ rfl g (0) (n) cap (k) rfl rfl hkn) ?_;go_frame
   refine Rg.list_skip none rfl rfl (Rg.exec_store _ _ _ rfl _ rfl _ rfl (run_storeIntB _ C1.out F1.out)) ?_;go_frame;have hrs:=RW.out.set k ((q:Nat):Int) hkn;have hkp:Rg.Kp (fun z=>z=g) wd (wd.setCell ⟨g,0+k,none⟩ (.int .i64 ((q:Nat):Int))):=Rg.Kp.of_setCell rfl;have hzg:=ZF.out.kp hkp (fun e=>by have:=HGL.out; omega);have hK:=Rg.Kp.below K.out hkp (fun z e=>by have:=HRB.out; have:=HGL.out; omega);have hz0:0+k=k:=Nat.zero_add k
   have hrs2:RwAt (wd.setCell ⟨g,0+k,none⟩ (.int .i64 ((q:Nat):Int))) g n (fun i=>if i<k+1 then (((i+1) % n:Nat):Int) else ((i:Nat):Int)):=by
    rw [hz0];refine hrs.congr fun i hi=>?_
    by_cases e:i=k
    ·subst e; rw [if_pos rfl,if_pos (by omega),hq.out]
    ·rw [if_neg e]
     by_cases e2:i<k
     ·rw [if_pos e2,if_pos (by omega)]
     ·rw [if_neg e2,if_neg (by omega)]
   generalize wd.setCell ⟨g,0+k,none⟩ (.int .i64 ((q:Nat):Int))=w88 at *;replace RW:=ι hrs2;replace ZF:=ι hzg;replace K:=ι hK;clear hrs hkp hzg hK hz0 hrs2 C1 F1;go_upto_region 4 with (fail);refine wp_region_list ?_;refine Rg.lm 10 (.int .i64 ((k:Nat):Int)) ?_;go_frame;refine Rg.lr 11 (exec_bin (R:=.int .i64 (((k+1):Nat):Int)) .add _ _ _ rfl rfl rfl (b_add _ (by omega) (by omega))) ?_;go_frame;refine Rg.la 4 (.int .i64 (((k+1):Nat):Int)) ?_;go_frame;go_wp2
   go_roundw
   case rel=>exact ⟨k+1,by go_num,HKN.out,RW,ZF,K⟩
   case measure=>simp [intOf]; have:=HKN.out; omega
  case neg =>
   obtain rfl:n=k:=by omega
   have RV:=ι (show Rg.Ints wd (.slice (some ⟨g,0,none⟩) n cap) (Ma.ofN (cyl n)) from by
    have h:=(RW.out.congr (f':=fun i=>(((i+1) % n:Nat):Int)) (fun i hi=>if_pos hi)).ints HC.out.1 HC.out.2 hn
    have e:(List.range n).map (fun i=>(((i+1) % n:Nat):Int))=Ma.ofN (cyl n):=by unfold Ma.ofN cyl; rw [List.map_map]; rfl
    rwa [e] at h)
   go_upto_region 3 with (fail);refine wp_region_list ?_;refine Rg.lm 7 (.int .i64 ((n:Nat):Int)) ?_;go_frame;refine Rg.lm 8 (.int .i64 ((n:Nat):Int)) ?_;go_frame;refine Rg.lr 9 (exec_bin (R:=.bool false) .lss _ _ _ rfl rfl rfl (b_lss _ (decide_eq_false (by omega)))) ?_;go_frame
   have hro:RowsF (rb+1) (wd.alloc (.cells #[.slice (some ⟨g,0,none⟩) n cap] 51)) (.slice (some ⟨wd.heap.size,0,none⟩) 1 1) [Ma.ofN (cyl n)]:=rowsF_new (B:=rb+1) (w:=wd) 51 [.slice (some ⟨g,0,none⟩) n cap] [Ma.ofN (cyl n)] rfl (by simp) (fun i h h2=>by
    match i,h,h2 with
    | 0,_,_=>exact ⟨RV.out,(Rg.Fresh.mk _ _ _ _).mono (by have:=HGL.out; omega)⟩) (by have:=ZF.out.lt; omega)
   have hb9:=(Below.refl wd.heap.size wd).alloc (Nat.le_refl _) (.cells #[.slice (some ⟨g,0,none⟩) n cap] 51);go_upto_region 6 with (fail);refine wp_region_list ?_;refine Rg.lm 19 (.int .i64 ((n:Nat):Int)) ?_;go_frame;refine Rg.lm 20 (.slice (some ⟨g,0,none⟩) n cap) ?_;go_frame;refine Rg.lr 21 (Rg.exec_buildSlice _ _ _ rfl (.slice (some ⟨g,0,none⟩) n cap) rfl (run_build1P wd _ ⟨_,_,_,rfl⟩)) ?_;go_frame;have hb:=hb9;generalize wd.alloc (.cells #[.slice (some ⟨g,0,none⟩) n cap] 51)=w61 at *;replace ZF:=ι (ZF.out.below hb);replace K:=ι (Rg.acc K.out hb);clear hb;have RO:=ι hro;clear hro hb9;refine Rg.lr 22 (exec_buildG (d:=((n:Nat):Int)) _ _ rfl rfl rfl) ?_;go_frame;refine Rg.list_skip none rfl rfl (Rg.exec_store _ _ _ rfl _ rfl _ rfl (run_storeG _ _ 1 1 ZF.out.c0 ZF.out.c1 (ZF.out.fr 0) (ZF.out.fr 1))) ?_;go_frame;obtain ⟨p0,p1,p2⟩:=group_set (.int .i64 ((n:Nat):Int)) (.slice (some ⟨wd.heap.size,0,none⟩) 1 1) ZF.out.c0 ZF.out.c1 K.out (Nat.le_of_eq HRB.out)
   have hR:=(RO.out.set rb 0 (.int .i64 ((n:Nat):Int)) (by omega)).set rb 1 (.slice (some ⟨wd.heap.size,0,none⟩) 1 1) (by omega);generalize (w61.setCell ⟨rb,0,none⟩ (.int .i64 ((n:Nat):Int))).setCell ⟨rb,1,none⟩ (.slice (some ⟨wd.heap.size,0,none⟩) 1 1)=W6 at *;have H:=ι (And.intro p0 (And.intro p1 p2));have HRO:=ι hR.rows;clear p0 p1 p2 hR;go_wp2;refine bodyPost_ret (results_cellG rfl _ rfl H.out.1 H.out.2.1) rfl ⟨_,_,rfl,HRO.out,H.out.2.2⟩
end Go.Proofs.YthehbckogieimaaGreat

namespace Go.Proofs.Bk
variable {n m:Nat} {f:Nat→Nat→Nat}
def rgcB:List Nat→Nat→Bool
 | [],_=>true
 | x :: L,k=>decide (x≤k) && rgcB L (if x=k then k+1 else k)
theorem rgcB_ok:∀ {L:List Nat} {k:Nat},rgcB L k=true→rgc L k
 | [],_,_=>trivial
 | x :: L,k,h=>by
  unfold rgcB at h;rw [Bool.and_eq_true] at h;exact ⟨of_decide_eq_true h.1,rgcB_ok h.2⟩
def mrg:List (Nat × Nat)→List Nat→List Nat
 | [],l=>l
 | z :: T,l=>mrg T (l.map fun x=>if x=l.getD z.1 0 then l.getD z.2 0 else x)
theorem mrg_ok {P:Nat→Nat→Prop}:∀ (T:List (Nat × Nat)) (l:List Nat),l.length=n→(∀ z∈T,BR m f P z.1 z.2∧z.1<n∧z.2<n)→(∀ i j,i<n→j<n→l.getD i 0=l.getD j 0→BR m f P i j) →
  (mrg T l).length=n∧∀ i j,i<n→j<n→(mrg T l).getD i 0=(mrg T l).getD j 0→BR m f P i j
 | [],l,hl,_,h=>⟨hl,h⟩
 | z :: T,l,hl,hT,h=>by
  unfold mrg;obtain ⟨h1,h2,h3⟩:=hT z (List.mem_cons_self ..);refine mrg_ok T _ (by rw [List.length_map]; exact hl) (fun z' hz'=>hT z' (List.mem_cons_of_mem _ hz')) fun i j hi hj e=>?_
  have key:∀ i,i<n→(l.map fun x=>if x=l.getD z.1 0 then l.getD z.2 0 else x).getD i 0=if l.getD i 0=l.getD z.1 0 then l.getD z.2 0 else l.getD i 0:=fun i hi=>by
   rw [getD_lt (by rw [List.length_map]; omega),List.getElem_map,getD_lt (show i<l.length by omega)]
  rw [key i hi,key j hj] at e
  by_cases e1:l.getD i 0=l.getD z.1 0
  ·rw [if_pos e1] at e
   by_cases e2:l.getD j 0=l.getD z.1 0
   ·exact h i j hi hj (e1.trans e2.symm)
   ·rw [if_neg e2] at e
    exact .trans (h i z.1 hi h2 e1) (.trans h1 (h z.2 j h3 hj e))
  ·rw [if_neg e1] at e
   by_cases e2:l.getD j 0=l.getD z.1 0
   ·rw [if_pos e2] at e
    exact .trans (h i z.2 hi h3 e) (.trans (.symm h1) (h z.1 j h2 hj e2.symm))
   ·rw [if_neg e2] at e
    exact h i j hi hj e
def frn (gs:List (List Nat)):Nat→List (Nat × Nat)→List (Nat × Nat)
 | 0,F=>F
 | k+1,F=>F++frn gs k (gs.flatMap fun g=>F.map fun z=>(g.getD z.1 0,g.getD z.2 0))
end Go.Proofs.Bk
namespace Go.Proofs.YthehbckogieimaaGreat
open Go.RowKit
open Go.Proofs
open Go.Proofs.Ob
open Go.Proofs.Cm (Gd)
attribute [local irreducible] Go.Calls Go.wpList
theorem frn_ok {n:Nat} {gs:List (List Nat)} (hg:GG n gs) {P:Nat→Nat→Prop}:∀ (k:Nat) (F:List (Nat × Nat)),(∀ z∈F,Bk.BR gs.length (img gs) P z.1 z.2∧z.1<n∧z.2<n)→∀ z∈Bk.frn gs k F,Bk.BR gs.length (img gs) P z.1 z.2∧z.1<n∧z.2<n
 | 0,F,h=>h
 | k+1,F,h=>fun z hz=>by
  unfold Bk.frn at hz
  rcases List.mem_append.1 hz with hz | hz
  ·exact h z hz
  ·refine frn_ok hg k _ (fun z hz=>?_) z hz
   obtain ⟨g,hgm,hz⟩:=List.mem_flatMap.1 hz;obtain ⟨y,hy,rfl⟩:=List.mem_map.1 hz;obtain ⟨s,hs,rfl⟩:=List.getElem_of_mem hgm;obtain ⟨h1,h2,h3⟩:=h y hy
   have e:∀ a,(gs[s]).getD a 0=img gs s a:=fun a=>by
    unfold img;rw [List.getD_eq_getElem?_getD (l:=gs),List.getElem?_eq_getElem hs,Option.getD_some]
   simp only [e];exact ⟨.act hs h1,img_lt hg s _ hs h2,img_lt hg s _ hs h3⟩
def chkL (n k:Nat) (gs:List (List Nat)) (T:List (Nat × Nat)) (L:List Nat):Bool :=
 decide (L.length=n) && Bk.rgcB L 0 && (T.all fun z=>decide (z.1<n) && decide (z.2<n) && decide (L.getD z.1 0=L.getD z.2 0)) &&
  ((List.range gs.length).all fun s=>(List.range n).all fun a=>(List.range a).all fun b=>decide (L.getD a 0≠L.getD b 0) || decide (L.getD (img gs s a) 0=L.getD (img gs s b) 0)) &&
  (let l:=Bk.mrg (Bk.frn gs k T) (List.range n); (List.range n).all fun a=>(List.range a).all fun b=>decide (L.getD a 0≠L.getD b 0) || decide (l.getD a 0=l.getD b 0))
theorem chkL_ok {n k:Nat} {gs:List (List Nat)} {T:List (Nat × Nat)} {L:List Nat} (hg:GG n gs) (h:chkL n k gs T L=true):Bk.IsLab n (Bk.BR gs.length (img gs) (inT T)) L:=by
 unfold chkL at h;simp only [Bool.and_eq_true,List.all_eq_true,List.mem_range,decide_eq_true_eq,Bool.or_eq_true] at h;obtain ⟨⟨⟨⟨h1,h2⟩,h3⟩,h4⟩,h5⟩:=h;have hT:∀ a b,inT T a b→a<n∧b<n:=fun a b hab=>(h3 (a,b) hab).1
 have low:∀ {R:Nat→Nat→Prop},(∀ a,R a a)→(∀ a b,R a b→R b a)→(∀ a,a<n→∀ b,b<a→L.getD a 0≠L.getD b 0∨R a b)→∀ a b,a<n→b<n→L.getD a 0=L.getD b 0→R a b:=by
  intro R r1 r2 r3 a b ha hb e
  rcases Nat.lt_trichotomy a b with hlt | hlt | hlt
  ·rcases r3 b hb a hlt with r | r
   ·exact absurd e.symm r
   ·exact r2 _ _ r
  ·rw [hlt]; exact r1 b
  ·rcases r3 a ha b hlt with r | r
   ·exact absurd e r
   ·exact r
 refine ⟨h1,Bk.rgcB_ok h2,fun i j hi hj=>⟨fun e=>?_,fun hr=>?_⟩⟩
 ·have hm:=Bk.mrg_ok (n:=n) (m:=gs.length) (f:=img gs) (P:=inT T) (Bk.frn gs k T) (List.range n) List.length_range (frn_ok hg k T fun z hz=>⟨.base hz,hT z.1 z.2 hz⟩) (fun i j hi hj e=>by
   rw [Bk.getD_lt (by rw [List.length_range]; exact hi),Bk.getD_lt (by rw [List.length_range]; exact hj),List.getElem_range,List.getElem_range] at e
   rw [e]; exact .refl j)
  refine hm.2 i j hi hj ?_;exact low (R:=fun a b=>(Bk.mrg (Bk.frn gs k T) (List.range n)).getD a 0=(Bk.mrg (Bk.frn gs k T) (List.range n)).getD b 0) (fun _=>rfl) (fun _ _ h=>h.symm) h5 i j hi hj e
 ·refine Bk.BR.least (n:=n) (E:=fun a b=>L.getD a 0=L.getD b 0) hT (img_lt hg) (fun _ _=>rfl) (fun _ _ _ _ h=>Eq.symm h) (fun _ _ _ _ _ _ h1 h2=>Eq.trans h1 h2) (fun s a b hs ha hb e=>?_) (fun a b hab=>(h3 (a,b) hab).2) hr hi hj
  exact low (R:=fun a b=>L.getD (img gs s a) 0=L.getD (img gs s b) 0) (fun _=>rfl) (fun _ _ h=>h.symm) (h4 s hs) a b ha hb e
def chkA (n k:Nat) (gs:List (List Nat)) (f0:List Nat) (Bs T0:List (List Nat)):Bool :=
 chkL n k gs [] f0 && decide (f0∈T0) && decide (Bs.length+1=n) && ((List.range Bs.length).all fun p=>chkL n k gs [(0,p+1)] (Bs.getD p [])) &&
  (T0.all fun x=>decide (x=f0) || decide (x∈Bs)) && (T0.all fun x=>Bs.all fun b=>T0.any fun y=>chkL n 0 gs (prL x n++prL b n) y)
theorem chkA_ok {n k:Nat} {gs:List (List Nat)} {f0:List Nat} {Bs T0:List (List Nat)} (hn:1≤n) (hg:GG n gs) (h:chkA n k gs f0 Bs T0=true) (y:List Nat):y∈T0↔Bk.RcB n gs.length (img gs) y:=by
 unfold chkA at h;simp only [Bool.and_eq_true,List.all_eq_true,List.any_eq_true,List.mem_range,decide_eq_true_eq,Bool.or_eq_true] at h;obtain ⟨⟨⟨⟨⟨h1,h2⟩,h3⟩,h4⟩,h5⟩,h6⟩:=h;have hf:=img_lt hg
 have H1:Bk.Fst0 n gs.length (img gs) f0:=by
  have:=chkL_ok hg h1;rw [inT_nil] at this;exact this
 have H4:∀ p,p+1<n→Bk.IsLab n (Bk.BR gs.length (img gs) (Bk.onep 0 (p+1))) (Bs.getD p []):=fun p hp=>by
  have:=chkL_ok hg (h4 p (by omega))
  rwa [inT_one] at this
 have nb:∀ p,p<Bs.length→Bs.getD p []∈Bs:=fun p hp=>by rw [List.getD_eq_getElem?_getD,List.getElem?_eq_getElem hp]; exact List.getElem_mem hp
 constructor
 ·intro hy
  rcases h5 y hy with e | e
  ·rw [e]; exact .first H1
  ·obtain ⟨p,hp,e⟩:=List.getElem_of_mem e
   have:=H4 p (by omega);rw [List.getD_eq_getElem?_getD,List.getElem?_eq_getElem hp,Option.getD_some,e] at this;exact Bk.RcB.base hf H1 (by omega) this
 ·intro hr
  induction hr with
  | first h=>rw [h.uniq H1]; exact h2
  | @join x b y p hx hp hb hy ih =>
   match p,hp,hb with
   | 0,_,hb =>
    have h7:Bk.Fst0 n gs.length (img gs) b:=hb.congr fun a c _ _=>by
     refine ⟨fun h=>Bk.BR.sub (fun u v huv=>?_) h,fun h=>Bk.BR.sub (fun _ _ h=>h.elim) h⟩;rw [huv.1,huv.2]; exact .refl _
    obtain ⟨q2,q3,q4⟩:=hx.inv hf;have q5:Bk.IsLab n (Bk.ker x) x:=⟨q3,q4,fun _ _ _ _=>Iff.rfl⟩
    have q6:Bk.IsLab n (Bk.ker x) y:=hy.congr fun a c ha hc=>by rw [Bk.both_comm]; exact Bk.both_first h7 q2 hf ha hc
    rw [q6.uniq q5]; exact ih
   | p+1,hp,hb =>
    have e:=hb.uniq (H4 p hp);obtain ⟨z,hz,hc⟩:=h6 x ih (Bs.getD p []) (nb p (by omega));have q:=chkL_ok hg hc;rw [prL_br (hx.inv hf).2.1 (by rw [← e]; exact hb.len),← e] at q;rw [hy.uniq q]; exact hz
theorem allB_eq {n m:Nat} {f:Nat→Nat→Nat} {T T0:List (List Nat)} (h:Bk.AllB n m f T) (ha:AscL T) (h0:Bk.AllB n m f T0) (ha0:AscL T0):T.map Ma.ofN=T0.map Ma.ofN:=by
 have hp:T.Perm T0:=by
  rw [List.perm_ext_iff_of_nodup h.1 h0.1];exact fun x=>(h.2 x).trans (h0.2 x).symm
 refine List.Perm.eq_of_pairwise (le:=fun a b=>lessL b a=false) ?_ ha ha0 (hp.map _);intro a b _ _ h1 h2
 by_cases e:a=b
 ·exact e
 ·have:=lessL_total h2 e
  rw [h1] at this; cases this
def PrB (D:Nat) (gs:List (List Nat)):Prop:=2≤D∧trn gs D=true∧∀ p,0<p→p<D→∀ M,Bk.IsLab D (Bk.BR gs.length (img gs) (Bk.onep 0 p)) M→∀ x∈M,x=0
def chkP (n k:Nat) (gs:List (List Nat)):Bool:=(List.range (n - 1)).all fun p=>chkL n k gs [(0,p+1)] (List.replicate n 0)
theorem chkP_ok {n k:Nat} {gs:List (List Nat)} (hn:2≤n) (hg:GG n gs) (ht:trn gs n=true) (h:chkP n k gs=true):PrB n gs:=by
 refine ⟨hn,ht,fun p h0 hp M hM x hx=>?_⟩;unfold chkP at h;simp only [List.all_eq_true,List.mem_range] at h;have q:=chkL_ok hg (h (p - 1) (by omega));rw [inT_one,show p - 1+1=p by omega] at q;rw [hM.uniq q] at hx;exact List.eq_of_mem_replicate hx
theorem gg_chk {n:Nat} {gs:List (List Nat)} (h:Ma.gchk ((n:Nat):Int) (gs.map Ma.ofN)=0):GG n gs:=by
 obtain ⟨D,gs',h1,h2,h3,_⟩:=gchk_ok h
 obtain rfl:n=D:=by omega
 rw [map_ofN_inj h2]; exact h3
theorem cy4_g:Ma.gchk ((4:Nat):Int) ([cyl 4].map Ma.ofN)=0:=by decide +kernel
theorem cy4_t:trn [cyl 4] 4=true:=by decide +kernel
theorem cy4_02:Bk.IsLab 4 (Bk.BR 1 (img [cyl 4]) (Bk.onep 0 2)) [0,1,0,1]:=by
 have:=chkL_ok (k:=4) (T:=[(0,2)]) (L:=[0,1,0,1]) (gg_chk cy4_g) (by decide +kernel)
 rwa [inT_one] at this
theorem cy4_all:Bk.AllB 4 1 (img [cyl 4]) [[0,0,0,0],[0,1,0,1],[0,1,2,3]] :=
 ⟨by decide +kernel,fun y=>chkA_ok (k:=4) (f0:=[0,1,2,3]) (Bs:=[[0,0,0,0],[0,1,0,1],[0,0,0,0]]) (by decide) (gg_chk cy4_g) (by decide +kernel) y⟩
theorem cy4_asc:AscL [[0,0,0,0],[0,1,0,1],[0,1,2,3]]:=by unfold AscL; decide +kernel
def gs2:List (List Nat):=[[1,0,2,3],[0,1,3,2]]
def gs4:List (List Nat):=[[1,2,3,0],[1,0,2,3]]
theorem gs2_g:Ma.gchk ((4:Nat):Int) (gs2.map Ma.ofN)=0:=by decide +kernel
theorem gs4_g:Ma.gchk ((4:Nat):Int) (gs4.map Ma.ofN)=0:=by decide +kernel
theorem gs2_02:Bk.IsLab 4 (Bk.BR gs2.length (img gs2) (Bk.onep 0 2)) [0,0,0,0]:=by
 have:=chkL_ok (k:=4) (T:=[(0,2)]) (L:=[0,0,0,0]) (gg_chk gs2_g) (by decide +kernel)
 rwa [inT_one] at this
theorem gs4_t:trn gs4 4=true:=by decide +kernel
theorem gs4_p:PrB 4 gs4:=chkP_ok (k:=4) (by decide) (gg_chk gs4_g) gs4_t (by decide +kernel)

theorem Hocl3 (args:Array Value) (w:World):(callFunc 95 args).run Tryz.prog w=.ok (.enter 95 args) w:=by kernel_rfl
theorem Hocl4 (args:Array Value) (w:World):(callFunc 26 args).run Tryz.prog w=.ok (.enter 26 args) w:=by kernel_rfl
theorem Hocl5 (args:Array Value) (w:World):(callFunc 33 args).run Tryz.prog w=.ok (.enter 33 args) w:=by kernel_rfl
def PrPost (d:Int) (ll:List (List Int)) (w:World) (e:Ending) (w':World):Prop :=
 Below w.heap.size w w'∧((Ma.gchk d ll≠0∧e=.returned (.tuple #[.bool false,.int .i64 (Ma.gchk d ll)])) ∨
  (Ma.gchk d ll=0∧∃ (D:Nat) (gs:List (List Nat)) (b:Bool),d=D∧ll=gs.map Ma.ofN∧e=.returned (.tuple #[.bool b,.int .i64 0])∧(b=true↔PrB D gs)))
theorem Primitive_any (gv:Value) (d:Int) (ll:List (List Int)) (w:World) (h:Rg.Rows w gv ll) :
  Calls Tryz.prog 18 #[.agg #[.int .i64 d,gv]] w (PrPost d ll w):=by
 obtain ⟨ga,gc,rfl,hga,hba⟩:=GI.enter (d) h;have K:=ι hba;have G0:=ι hga;clear h hga hba;obtain ⟨ck,hck⟩:∃ c,Hid (Ma.gchk d ll=c):=⟨_,ι rfl⟩
 go_enter Tryz.func18,Tryz.ntmps18
 go_upto_region 0 with (fail);refine wp_region_list ?_;refine Rg.lr 1 (Rg.exec_box _ _ rfl rfl) ?_;go_frame;refine Rg.la 2 (.bool false) ?_;go_frame;refine Rg.la 3 (.int .i64 0) ?_;go_frame;obtain ⟨gb,hgb⟩:∃ gb,w.heap.size=gb:=⟨_,rfl⟩;rw [hgb] at G0 ⊢;clear hgb;generalize w.alloc (.cells #[.int .i64 d,.slice ga ll.length gc] 24)=w0 at *;go_upto_region 1 with (fail);refine wp_region_list ?_;refine Rg.lr 6 (Rg.exec_load (v:=.agg #[.int .i64 d,.slice ga ll.length gc]) _ _ rfl ⟨gb,0,none⟩ rfl (run_loadG G0.out.c0 G0.out.c1)) ?_;go_frame;refine list_ask (some 7) rfl rfl _ _ (exec_fn1 85 _ _ rfl rfl (vacl0 _ _)) ?_;refine (orbitCheck_any _ d ll w0 G0.out.rows).mono ?_;rintro e1 w1 ⟨rfl,hb⟩;rw [hck.out];refine ⟨_,rfl,?_⟩;go_frame;replace G0:=ι (G0.out.below hb);replace K:=ι (Rg.acc K.out hb);clear hb;refine Rg.la 4 (.int .i64 ck) ?_;go_frame
 by_cases h0:ck=0
 case neg =>
  skip
  go_upto_region 2 with (fail);refine wp_region_list ?_;refine Rg.lm 8 (.int .i64 ck) ?_;go_frame;refine Rg.lr 9 (exec_bin (R:=.bool true) .neq _ _ _ rfl rfl rfl (b_neqB _ (decide_eq_true h0))) ?_;go_frame;go_upto_region 3 with (fail);refine wp_region_list ?_;refine Rg.lm 10 (.int .i64 ck) ?_;go_frame;refine Rg.la 2 (.bool false) ?_;go_frame;refine Rg.la 3 (.int .i64 ck) ?_;go_frame;go_wp2
  go_ret2
  exact ⟨K.out,.inl ⟨by rw [hck.out]; exact h0,by rw [hck.out]; rfl⟩⟩
 case pos =>
  have HZ:=ι (hck.out.trans h0);go_upto_region 2 with (fail);refine wp_region_list ?_;refine Rg.lm 8 (.int .i64 ck) ?_;go_frame;refine Rg.lr 9 (exec_bin (R:=.bool false) .neq _ _ _ rfl rfl rfl (b_neqB _ (decide_eq_false (fun e=>e h0)))) ?_;go_frame;clear h0;obtain ⟨D,gs,hD,hgs,hgg,hD1,hD2,hgl⟩:=gchk_ok HZ.out;subst hD hgs;have HGG:=ι hgg;clear hgg;obtain ⟨tb,htb⟩:∃ b,Hid (trn gs D=b):=⟨_,ι rfl⟩
  by_cases hD2':D<2
  case pos =>
   skip
   go_upto_region 4 with (fail);refine wp_region_list ?_;refine Rg.lr 11 (exec_fieldG0 _ rfl rfl) ?_;go_frame;refine Rg.lr 12 (Rg.exec_load (v:=.int .i64 ((D:Nat):Int)) _ _ rfl ⟨gb,0,none⟩ rfl (run_loadInt G0.out.c0)) ?_;go_frame;refine Rg.lr 13 (exec_bin (R:=.bool true) .lss _ _ _ rfl rfl rfl (b_lss _ (decide_eq_true (by omega)))) ?_;go_frame;refine Rg.lm 14 (.bool true) ?_;go_frame;refine listW_pass (some 15) (by kernel_rfl) rfl ?_;go_frame;refine listW_pass (some 16) (by kernel_rfl) rfl ?_;go_frame;refine listW_pass (some 17) (by kernel_rfl) rfl ?_;go_frame;refine Rg.lr 18 (exec_pickT (v:=.bool true) _ _ _ rfl rfl rfl) ?_;go_frame;go_upto_region 5 with (fail);refine wp_region_list ?_;refine Rg.la 2 (.bool false) ?_;go_frame;refine Rg.la 3 (.int .i64 ((0:Nat):Int)) ?_;go_frame;go_wp2
   go_ret2
   exact ⟨K.out,.inr ⟨HZ.out,D,gs,false,rfl,rfl,rfl,⟨fun h=>(Bool.false_ne_true h).elim,fun h=>by have:=h.1; omega⟩⟩⟩
  case neg =>
   skip
   cases tb
   case false =>
    skip
    go_upto_region 4 with (fail);refine wp_region_list ?_;refine Rg.lr 11 (exec_fieldG0 _ rfl rfl) ?_;go_frame;refine Rg.lr 12 (Rg.exec_load (v:=.int .i64 ((D:Nat):Int)) _ _ rfl ⟨gb,0,none⟩ rfl (run_loadInt G0.out.c0)) ?_;go_frame;refine Rg.lr 13 (exec_bin (R:=.bool false) .lss _ _ _ rfl rfl rfl (b_lss _ (decide_eq_false (by omega)))) ?_;go_frame;refine Rg.lm 14 (.bool false) ?_;go_frame;refine listW_run (some 15) rfl rfl (Rg.exec_load (v:=.agg #[.int .i64 ((D:Nat):Int),.slice ga (gs.map Ma.ofN).length gc]) _ _ rfl ⟨gb,0,none⟩ rfl (run_loadG G0.out.c0 G0.out.c1)) ?_;go_frame;refine listW_ask (some 16) rfl rfl _ _ (exec_fn1 86 _ _ rfl rfl (Hlcl1 _ _)) ?_;refine (btrans_any _ D gs w1 HZ.out G0.out.rows).mono ?_;rintro e1 w2 ⟨rfl,hb⟩;rw [htb.out];refine ⟨_,rfl,?_⟩;go_frame;replace G0:=ι (G0.out.below hb);replace K:=ι (Rg.acc K.out hb);clear hb;refine listW_run (some 17) rfl rfl (exec_not _ _ false rfl rfl) ?_;go_frame
    refine Rg.lr 18 (exec_pickF (v:=.bool true) _ _ _ rfl rfl rfl) ?_;go_frame;go_upto_region 5 with (fail);refine wp_region_list ?_;refine Rg.la 2 (.bool false) ?_;go_frame;refine Rg.la 3 (.int .i64 ((0:Nat):Int)) ?_;go_frame;go_wp2
    go_ret2
    exact ⟨K.out,.inr ⟨HZ.out,D,gs,false,rfl,rfl,rfl,⟨fun h=>(Bool.false_ne_true h).elim,fun h=>by have:=h.2.1; rw [htb.out] at this; exact this⟩⟩⟩
   case true =>
    skip
    go_upto_region 4 with (fail);refine wp_region_list ?_;refine Rg.lr 11 (exec_fieldG0 _ rfl rfl) ?_;go_frame;refine Rg.lr 12 (Rg.exec_load (v:=.int .i64 ((D:Nat):Int)) _ _ rfl ⟨gb,0,none⟩ rfl (run_loadInt G0.out.c0)) ?_;go_frame;refine Rg.lr 13 (exec_bin (R:=.bool false) .lss _ _ _ rfl rfl rfl (b_lss _ (decide_eq_false (by omega)))) ?_;go_frame;refine Rg.lm 14 (.bool false) ?_;go_frame;refine listW_run (some 15) rfl rfl (Rg.exec_load (v:=.agg #[.int .i64 ((D:Nat):Int),.slice ga (gs.map Ma.ofN).length gc]) _ _ rfl ⟨gb,0,none⟩ rfl (run_loadG G0.out.c0 G0.out.c1)) ?_;go_frame;refine listW_ask (some 16) rfl rfl _ _ (exec_fn1 86 _ _ rfl rfl (Hlcl1 _ _)) ?_;refine (btrans_any _ D gs w1 HZ.out G0.out.rows).mono ?_;rintro e1 w2 ⟨rfl,hb⟩;rw [htb.out];refine ⟨_,rfl,?_⟩;go_frame;replace G0:=ι (G0.out.below hb);replace K:=ι (Rg.acc K.out hb);clear hb;refine listW_run (some 17) rfl rfl (exec_not _ _ true rfl rfl) ?_;go_frame
    refine Rg.lr 18 (exec_pickF (v:=.bool false) _ _ _ rfl rfl rfl) ?_;go_frame;go_upto_region 6 with (fail);refine wp_region_list ?_;refine Rg.la 5 (.int .i64 ((1:Nat):Int)) ?_;go_frame;have HWB:=ι K.out;have GB:=ι G0.out;have KK:=ι (Below.refl w2.heap.size w2);have AL:=ι (show ∀ p,0<p→p≤0→∀ M,Bk.IsLab D (Bk.BR gs.length (img gs) (Bk.onep 0 p)) M→∀ x∈M,x=0 from fun p h1 h2=>by omega);clear G0 K;go_wp2
    go_loopw [5] (fun pv wr=>∃ k:Nat,pv=.int .i64 ((k+1:Nat):Int)∧k+1≤D∧Hid (∀ p,0<p→p≤k→∀ M,Bk.IsLab D (Bk.BR gs.length (img gs) (Bk.onep 0 p)) M→∀ x∈M,x=0)∧Hid (Below w2.heap.size w2 wr)) (fun pv _=>D - (intOf pv).toNat)
    case atStart=>exact ⟨0,rfl,by omega,AL,KK⟩
    case round =>
     clear AL KK;obtain ⟨k,rfl,hk,AL,KK⟩:=hrel;generalize wr=wd at *;have G0:=ι (GB.out.below KK.out)
     by_cases hkD:k+1<D
     case neg =>
      have hkD2:k+1=D:=by omega
      go_upto_region 7 with (fail);refine wp_region_list ?_;refine Rg.lm 19 (.int .i64 (((k+1):Nat):Int)) ?_;go_frame;refine Rg.lr 20 (exec_fieldG0 _ rfl rfl) ?_;go_frame;refine Rg.lr 21 (Rg.exec_load (v:=.int .i64 ((D:Nat):Int)) _ _ rfl ⟨gb,0,none⟩ rfl (run_loadInt G0.out.c0)) ?_;go_frame;refine Rg.lr 22 (exec_bin (R:=.bool false) .lss _ _ _ rfl rfl rfl (b_lss _ (decide_eq_false (by omega)))) ?_;go_frame;go_upto_region 11 with (fail);refine wp_region_list ?_;refine Rg.la 2 (.bool true) ?_;go_frame;refine Rg.la 3 (.int .i64 ((0:Nat):Int)) ?_;go_frame;go_wp2
      go_ret2
      exact ⟨Rg.acc HWB.out KK.out,.inr ⟨HZ.out,D,gs,true,rfl,rfl,rfl,⟨fun _=>⟨by omega,htb.out,fun p h1 h2=>AL.out p h1 (by omega)⟩,fun _=>rfl⟩⟩⟩
     case pos =>
      have HKD:=ι hkD;go_upto_region 7 with (fail);refine wp_region_list ?_;refine Rg.lm 19 (.int .i64 (((k+1):Nat):Int)) ?_;go_frame;refine Rg.lr 20 (exec_fieldG0 _ rfl rfl) ?_;go_frame;refine Rg.lr 21 (Rg.exec_load (v:=.int .i64 ((D:Nat):Int)) _ _ rfl ⟨gb,0,none⟩ rfl (run_loadInt G0.out.c0)) ?_;go_frame;refine Rg.lr 22 (exec_bin (R:=.bool true) .lss _ _ _ rfl rfl rfl (b_lss _ (decide_eq_true (by omega)))) ?_;go_frame;obtain ⟨bz,hbz⟩:∃ b:Bool,Hid (b=b):=⟨true,ι rfl⟩;clear bz hbz;go_upto_region 9 with (fail);refine wp_region_list ?_;refine Rg.lr 25 (Rg.exec_load (v:=.agg #[.int .i64 ((D:Nat):Int),.slice ga (gs.map Ma.ofN).length gc]) _ _ rfl ⟨gb,0,none⟩ rfl (run_loadG G0.out.c0 G0.out.c1)) ?_;go_frame;refine Rg.lm 26 (.int .i64 (((k+1):Nat):Int)) ?_;go_frame;refine Rg.lr 27 (exec_build2 _ _ rfl rfl rfl) ?_;go_frame;have hpr:=prs_one (W:=wd) (A:=0) (B:=k+1) ((Below.refl _ _).alloc (Nat.le_refl _) _) rfl
      refine Rg.lr 28 (Rg.exec_buildSlice _ _ _ rfl (.agg #[.int .i64 ((0:Nat):Int),.int .i64 (((k+1):Nat):Int)]) rfl (run_build2p wd _ _)) ?_;go_frame;have hb:=(Below.refl wd.heap.size wd).alloc (Nat.le_refl _) (.cells #[.int .i64 ((0:Nat):Int),.int .i64 (((k+1):Nat):Int)] 108);generalize wd.alloc (.cells #[.int .i64 ((0:Nat):Int),.int .i64 (((k+1):Nat):Int)] 108)=w61 at *;replace G0:=ι (G0.out.below hb);replace KK:=ι (Rg.acc KK.out hb);clear hb;have PR:=ι hpr;clear hpr;refine list_ask (some 29) rfl rfl _ _ (exec_fn 87 _ _ _ rfl rfl rfl (Hicl1 _ _)) ?_;refine (bleastV D _ _ gs [(0,k+1)] w61 hD2 G0.out.rows HGG.out (by omega) PR.out (fun z hz=>by rw [List.mem_singleton] at hz; subst hz; exact ⟨by show 0<D; omega,HKD.out⟩) (by show 1≤1000; omega)).mono ?_;rintro e1 w62 ⟨yv,y,rfl,hin,hlab,hb⟩;have HLB:=ι (show Bk.IsLab D (Bk.BR gs.length (img gs) (Bk.onep 0 (k+1))) y by rw [inT_one] at hlab; exact hlab)
      clear hlab;refine ⟨_,rfl,?_⟩;go_frame;replace G0:=ι (G0.out.below hb);replace KK:=ι (Rg.acc KK.out hb);clear hb;have YV:=ι (NpW.mk hin);refine list_ask (some 30) rfl rfl _ _ (exec_fn1 95 _ _ rfl rfl (Hocl3 _ _)) ?_;refine (Max_any _ y w62 YV.out.np (by rw [HLB.out.len]; omega) (by rw [HLB.out.len]; omega) (fun x hx=>by have:=Bk.rgc_lt HLB.out.rg x hx; rw [HLB.out.len] at this; omega)).mono ?_;rintro e1 w63 ⟨mx,rfl,hm1,hm2,hb⟩;have HM:=ι (And.intro hm1 hm2);clear hm1 hm2;obtain ⟨qb,hqb⟩:∃ b,Hid (decide (0<mx)=b):=⟨_,ι rfl⟩;have HQB:=ι (show decide (((mx:Nat):Int) > ((0:Nat):Int))=qb by rw [← hqb.out]; exact decide_eq_decide.2 (by omega));refine ⟨_,rfl,?_⟩;go_frame;replace G0:=ι (G0.out.below hb);replace YV:=ι (YV.out.below hb);replace KK:=ι (Rg.acc KK.out hb);clear hb;refine Rg.lr 31 (exec_bin (R:=.bool qb) .gtr _ _ _ rfl rfl rfl (b_gtr _ HQB.out)) ?_;go_frame
      cases qb with
      | true =>
       skip
       go_upto_region 10 with (fail);refine wp_region_list ?_;refine Rg.la 2 (.bool false) ?_;go_frame;refine Rg.la 3 (.int .i64 ((0:Nat):Int)) ?_;go_frame;go_wp2
       go_ret2
       exact ⟨Rg.acc HWB.out KK.out,.inr ⟨HZ.out,D,gs,false,rfl,rfl,rfl,⟨fun h=>(Bool.false_ne_true h).elim,fun h=>by
        have h1:=h.2.2 (k+1) (by omega) HKD.out y HLB.out mx HM.out.1;have h2:=of_decide_eq_true hqb.out
        omega⟩⟩⟩
      | false =>
       have AL2:=ι (show ∀ p,0<p→p≤k+1→∀ M,Bk.IsLab D (Bk.BR gs.length (img gs) (Bk.onep 0 p)) M→∀ x∈M,x=0 from fun p h1 h2 M hM x hx=>by
        by_cases e:p=k+1
        ·subst e
         rw [hM.uniq HLB.out] at hx;have h3:=HM.out.2 x hx;have h4:=of_decide_eq_false hqb.out;omega
        ·exact AL.out p h1 (by omega) M hM x hx)
       go_upto_region 8 with (fail);refine wp_region_list ?_;refine Rg.lm 23 (.int .i64 (((k+1):Nat):Int)) ?_;go_frame;refine Rg.lr 24 (exec_bin (R:=.int .i64 (((k+1+1):Nat):Int)) .add _ _ _ rfl rfl rfl (b_add _ (by omega) (by omega))) ?_;go_frame;refine Rg.la 5 (.int .i64 (((k+1+1):Nat):Int)) ?_;go_frame;go_wp2
       go_roundw
       case rel=>exact ⟨k+1,by go_num,HKD.out,AL2,KK⟩
       case measure=>simp [intOf]; have:=HKD.out; omega
theorem LsAns.one {w:World} {gs:List (List Nat)} {D A B:Nat} {M:List Nat} {v:Value} (h:LsAns w ((D:Nat):Int) (gs.map Ma.ofN) ((A:Nat):Int) ((B:Nat):Int) v) (hc:lsC ((D:Nat):Int) (gs.map Ma.ofN) ((A:Nat):Int) ((B:Nat):Int)=0) (hM:Bk.IsLab D (Bk.BR gs.length (img gs) (Bk.onep A B)) M):Rg.NP w v M:=by
 rcases h with ⟨h0,_⟩ | ⟨_,D',gs',A',B',M',e1,e2,e3,e4,_,_,_,_,_,k9,k10⟩
 ·exact absurd hc h0
 ·obtain rfl:D=D':=by omega
  obtain rfl:=map_ofN_inj e2
  obtain rfl:A=A':=by omega
  obtain rfl:B=B':=by omega
  rw [hM.uniq k9];exact k10
theorem least12_any (gv:Value) (D:Nat) (gs:List (List Nat)) (A B:Nat) (M:List Nat) (wv:Value) (w:World) (h:Rg.Rows w gv (gs.map Ma.ofN)) (hz:Ma.gchk ((D:Nat):Int) (gs.map Ma.ofN)=0) (hA:A<D) (hB:B<D) (hM:Bk.IsLab D (Bk.BR gs.length (img gs) (Bk.onep A B)) M) (hw:Rg.Ints w wv (Ma.ofN M)) :
  Calls Tryz.prog 83 #[.agg #[.int .i64 ((D:Nat):Int),gv],.int .i64 ((A:Nat):Int),.int .i64 ((B:Nat):Int),wv] w fun e w'=>e=.returned (.bool true)∧Below w.heap.size w w':=by
 obtain ⟨wa,wc,rfl,-⟩:=hw.shape;have HW:=ι (NpW.mk (show Rg.NP w _ M from hw));have HZ:=ι hz;have HM:=ι hM;have HC:=ι (lsC_z (a:=((A:Nat):Int)) (b:=((B:Nat):Int)) hz ⟨⟨by omega,by omega⟩,⟨by omega,by omega⟩⟩);obtain ⟨ml,hml⟩:∃ n,(Ma.ofN M).length=n:=⟨_,rfl⟩;rw [hml] at HW ⊢;clear hw hz hM hml;obtain ⟨ga,gc,rfl,hga,hba⟩:=GI.enter (((D:Nat):Int)) h;have K:=ι hba;have G0:=ι hga;clear h hga hba;replace HW:=ι (HW.out.below K.out)
 go_enter Tryz.func83,Tryz.ntmps83
 go_upto_region 0 with (fail);refine wp_region_list ?_;refine Rg.lr 4 (Rg.exec_box _ _ rfl rfl) ?_;go_frame;refine Rg.la 8 (.bool false) ?_;go_frame;obtain ⟨gb,hgb⟩:∃ gb,w.heap.size=gb:=⟨_,rfl⟩;rw [hgb] at G0 ⊢;clear hgb;generalize w.alloc (.cells #[.int .i64 ((D:Nat):Int),.slice ga (gs.map Ma.ofN).length gc] 24)=w0 at *;go_upto_region 1 with (fail);refine wp_region_list ?_;refine Rg.lr 12 (Rg.exec_load (v:=.agg #[.int .i64 ((D:Nat):Int),.slice ga (gs.map Ma.ofN).length gc]) _ _ rfl ⟨gb,0,none⟩ rfl (run_loadG G0.out.c0 G0.out.c1)) ?_;go_frame;refine Rg.lm 13 (.int .i64 ((A:Nat):Int)) ?_;go_frame;refine Rg.lm 14 (.int .i64 ((B:Nat):Int)) ?_;go_frame;refine list_ask (some 15) rfl rfl _ _ (exec_fn3 26 _ _ _ _ rfl rfl rfl rfl (Hocl4 _ _)) ?_;refine (Least_any _ ((D:Nat):Int) (gs.map Ma.ofN) ((A:Nat):Int) ((B:Nat):Int) w0 G0.out.rows).mono ?_;rintro e1 w1 ⟨v,rfl,hans,hb⟩
 rw [HC.out];have hin:=hans.one HC.out HM.out;refine ⟨_,rfl,?_⟩;go_frame;replace G0:=ι (G0.out.below hb);replace HW:=ι (HW.out.below hb);replace K:=ι (Rg.acc K.out hb);clear hb;have HV:=ι (NpW.mk hin);refine Rg.lm 11 (.tuple #[v,.int .i64 0]) ?_;go_frame;refine Rg.lr 16 (exec_extract (v:=v) _ _ rfl rfl rfl) ?_;go_frame;refine Rg.lr 17 (exec_extract (v:=.int .i64 0) _ _ rfl rfl rfl) ?_;go_frame;refine Rg.la 9 (v) ?_;go_frame;refine Rg.la 10 (.int .i64 0) ?_;go_frame;clear hans hin;go_upto_region 2 with (fail);refine wp_region_list ?_;refine Rg.lm 18 (v) ?_;go_frame;refine Rg.lm 19 (.slice wa ml wc) ?_;go_frame;refine list_ask (some 20) rfl rfl _ _ (exec_fn 33 _ _ _ rfl rfl rfl (Hocl5 _ _)) ?_;refine (Same_any HV.out.np HW.out.np (ι (decide_eq_true rfl)) (Below.refl _ _)).mono ?_;rintro e1 w2 ⟨rfl,hb⟩;refine ⟨_,rfl,?_⟩;go_frame;replace G0:=ι (G0.out.below hb);replace HW:=ι (HW.out.below hb)
 replace HV:=ι (HV.out.below hb);replace K:=ι (Rg.acc K.out hb);clear hb;refine Rg.lm 21 (.bool true) ?_;go_frame;refine listW_run (some 22) rfl rfl (Rg.xm (.int .i64 0) _ rfl rfl) ?_;go_frame;refine listW_run (some 23) rfl rfl (exec_eqI _ _ rfl rfl rfl rfl) ?_;go_frame;refine Rg.lr 24 (exec_pickT (v:=.bool true) _ _ _ rfl rfl rfl) ?_;go_frame;refine Rg.la 8 (.bool true) ?_;go_frame;go_wp2;go_ret;exact ⟨rfl,K.out⟩
end Go.Proofs.YthehbckogieimaaGreat

namespace Go.Proofs.Bk
variable {n m:Nat} {f:Nat→Nat→Nat}
theorem map_ofNat_inj {L M:List Nat} (h:L.map Int.ofNat=M.map Int.ofNat):L=M:=by
 induction L generalizing M with
 | nil=>cases M with
  | nil=>rfl
  | cons _ _=>simp at h
 | cons x L ih=>cases M with
  | nil=>simp at h
  | cons y M =>
   simp only [List.map_cons,List.cons.injEq] at h;obtain ⟨h1,h2⟩:=h;rw [ih h2,Int.ofNat.inj h1]
def RtI (l:List Int) (i m:Nat):Prop:=∃ L:List Nat,l.take i=L.map Int.ofNat∧rgc L 0∧mny L 0=m
theorem RtI.start (l:List Int):RtI l 0 0:=⟨[],by simp,trivial,rfl⟩
theorem RtI.bad {l:List Int} {i m:Nat} (h:RtI l i m) (hi:i<l.length) (hx:l[i]<0∨(m:Int)<l[i]):¬ okP l:=by
 rintro ⟨M,rfl,hM⟩;obtain ⟨L,h1,_,h3⟩:=h;rw [← List.map_take] at h1;have h4:=map_ofNat_inj h1
 have hi2:i<M.length:=by simpa using hi
 have h5:=rgc_take hM (i+1);rw [List.take_succ_eq_append_getElem hi2,rgc_snoc,h4,h3] at h5;rw [List.getElem_map] at hx;have h6:=h5.2
 rcases hx with hx | hx
 ·have:(0:Int)≤Int.ofNat M[i]:=Int.natCast_nonneg _
  omega
 ·have:(Int.ofNat M[i])=((M[i]:Nat):Int):=rfl
  omega
theorem RtI.next {l:List Int} {i m x:Nat} (h:RtI l i m) (hi:i<l.length) (hx:l[i]=(x:Int)) (hm:x≤m):RtI l (i+1) (if x=m then m+1 else m):=by
 obtain ⟨L,h1,h2,h3⟩:=h;refine ⟨L++[x],?_,(rgc_snoc _ _ _).2 ⟨h2,by omega⟩,by rw [mny_snoc,h3]⟩;rw [List.take_succ_eq_append_getElem hi,h1,hx,List.map_append];rfl
theorem RtI.done {l:List Int} {i m:Nat} (h:RtI l i m) (hi:l.length≤i):okP l:=by
 obtain ⟨L,h1,h2,_⟩:=h;rw [List.take_of_length_le hi] at h1;exact ⟨L,h1,h2⟩
theorem idxOf_lt {L:List Nat} {i:Nat} (h:i<L.length):L.idxOf (L.getD i 0)<L.length:=List.idxOf_lt_length_of_mem (by rw [getD_lt h]; exact List.getElem_mem h)
theorem idxOf_get {L:List Nat} {i:Nat} (h:i<L.length):L.getD (L.idxOf (L.getD i 0)) 0=L.getD i 0:=by rw [getD_lt (idxOf_lt h)]; exact List.getElem_idxOf (idxOf_lt h)
theorem inv_iff {L:List Nat} (hl:L.length=n):Inv n m f L↔∀ s i,s<m→i<n→L.getD (f s i) 0=L.getD (f s (L.idxOf (L.getD i 0))) 0:=by
 constructor
 ·intro h s i hs hi
  exact h s i _ hs hi (by rw [← hl]; exact idxOf_lt (by omega)) (idxOf_get (by omega)).symm
 ·intro h s a b hs ha hb hk
  have h1:=h s a hs ha;have h2:=h s b hs hb;unfold ker at hk ⊢;rw [h1,h2,hk]
def acB (L g:List Nat):List Nat:=(List.range (mny L 0)).map fun c=>L.getD (g.getD (L.idxOf c) 0) 0
theorem acB_len (L g:List Nat):(acB L g).length=mny L 0:=by unfold acB; simp
theorem acB_at {L g:List Nat} {c:Nat} (h:c<mny L 0):(acB L g).getD c 0=L.getD (g.getD (L.idxOf c) 0) 0:=by
 rw [getD_lt (by rw [acB_len]; exact h)];unfold acB;rw [List.getElem_map,List.getElem_range]
theorem mem_mny {L:List Nat} (h:rgc L 0) (v:Nat):v∈L↔v<mny L 0:=by
 rw [← rgc_mem h v];exact ⟨.inr,fun h=>h.resolve_left (Nat.not_lt_zero _)⟩
def fil (L g:List Nat) (z:Nat→Int) (i c:Nat):Int:=if c∈L.take i then (((acB L g).getD c 0:Nat):Int) else z c
theorem fil_zero (L g:List Nat) (z:Nat→Int):fil L g z 0=z:=funext fun c=>by unfold fil; simp
theorem fil_step {L g:List Nat} {z:Nat→Int} {i:Nat} (hi:i<L.length) (c:Nat):fil L g z (i+1) c=if c=L[i] then (((acB L g).getD c 0:Nat):Int) else fil L g z i c:=by
 unfold fil;rw [List.take_succ_eq_append_getElem hi]
 by_cases e:c=L[i]
 ·rw [if_pos e,if_pos (List.mem_append_right _ (by rw [e]; exact List.mem_singleton.2 rfl))]
 ·rw [if_neg e]
  by_cases e2:c∈L.take i
  ·rw [if_pos e2,if_pos (List.mem_append_left _ e2)]
  ·rw [if_neg e2,if_neg (fun h=>(List.mem_append.1 h).elim e2 (fun h=>e (List.mem_singleton.1 h)))]
theorem fil_all {L g:List Nat} {z:Nat→Int} (hr:rgc L 0) {c:Nat} (h:c<mny L 0):fil L g z L.length c=(((acB L g).getD c 0:Nat):Int):=by
 unfold fil;rw [List.take_length,if_pos ((mem_mny hr c).2 h)]
theorem max_mny {L:List Nat} {x:Nat} (hr:rgc L 0) (h1:x∈L) (h2:∀ y∈L,y≤x):x+1=mny L 0:=by
 have h3:=(mem_mny hr x).1 h1;have h4:=h2 (mny L 0 - 1) ((mem_mny hr _).2 (by omega));omega
end Go.Proofs.Bk
namespace Go.Proofs.YthehbckogieimaaGreat
open Go.RowKit
open Go.Proofs
open Go.Proofs.Ob
open Go.Proofs.Cm (Gd)
attribute [local irreducible] Go.Calls Go.wpList
open Classical in
noncomputable def paC (d:Int) (ll:List (List Int)) (l:List Int):Int:=if Ma.gchk d ll=0 then (if (l.length:Int)=d∧Bk.okP l then 0 else 3) else Ma.gchk d ll
theorem paC_g {d:Int} {ll:List (List Int)} {l:List Int} {c:Int} (h:Ma.gchk d ll=c) (hc:c≠0):paC d ll l=c:=by unfold paC; rw [if_neg (by rw [h]; exact hc)]; exact h
theorem paC_f {d:Int} {ll:List (List Int)} {l:List Int} (h:Ma.gchk d ll=0) (hc:¬ ((l.length:Int)=d∧Bk.okP l)):paC d ll l=3:=by unfold paC; rw [if_pos h,if_neg hc]
theorem paC_z {d:Int} {ll:List (List Int)} {l:List Int} (h:Ma.gchk d ll=0) (hc:(l.length:Int)=d∧Bk.okP l):paC d ll l=0:=by unfold paC; rw [if_pos h,if_pos hc]
theorem paC_ok {d:Int} {ll:List (List Int)} {l:List Int} (h:paC d ll l=0):Ma.gchk d ll=0∧∃ (D:Nat) (gs:List (List Nat)) (L:List Nat),d=D∧ll=gs.map Ma.ofN∧l=Ma.ofN L∧GG D gs∧1≤D∧D≤64∧gs.length≤16∧L.length=D∧Bk.rgc L 0:=by
 unfold paC at h
 by_cases h0:Ma.gchk d ll=0
 ·rw [if_pos h0] at h
  by_cases h1:(l.length:Int)=d∧Bk.okP l
  ·obtain ⟨h1,L,rfl,h2⟩:=h1
   obtain ⟨D,gs,h3,h4,h5,h6,h7,h8⟩:=gchk_ok h0;exact ⟨h0,D,gs,L,h3,h4,rfl,h5,h6,h7,h8,by rw [List.length_map] at h1; omega,h2⟩
  ·rw [if_neg h1] at h
   exact absurd h (by decide)
 ·rw [if_neg h0] at h
  exact absurd h h0
def syB (D:Nat) (gs:List (List Nat)) (L:List Nat):Bool:=(List.range gs.length).all fun s=>(List.range D).all fun i=>decide (L.getD (img gs s i) 0=L.getD (img gs s (L.idxOf (L.getD i 0))) 0)
theorem syB_iff {D:Nat} {gs:List (List Nat)} {L:List Nat} (hl:L.length=D):syB D gs L=true↔Bk.Inv D gs.length (img gs) L:=by
 rw [Bk.inv_iff hl];unfold syB;simp only [List.all_eq_true,List.mem_range,decide_eq_true_eq];exact ⟨fun h s i hs hi=>h s hs i hi,fun h s hs i hi=>h s i hs hi⟩
def isBl (d:Int) (ll:List (List Int)) (l:List Int):Bool:=syB d.toNat (ll.map (List.map Int.toNat)) (l.map Int.toNat)
theorem isBl_eq (D:Nat) (gs:List (List Nat)) (L:List Nat):isBl ((D:Nat):Int) (gs.map Ma.ofN) (Ma.ofN L)=syB D gs L:=by
 unfold isBl;rw [toN1,Int.toNat_natCast]
 have e:(gs.map Ma.ofN).map (List.map Int.toNat)=gs:=by
  rw [List.map_map];exact (List.map_congr_left fun x _=>toN1 x).trans (List.map_id _)
 rw [e]
noncomputable def acC (d:Int) (ll:List (List Int)) (l:List Int):Int:=if paC d ll l=0 then (if isBl d ll l=true then 0 else 13) else paC d ll l
def AcAns (w:World) (d:Int) (ll:List (List Int)) (l:List Int) (v:Value):Prop :=
 (acC d ll l≠0∧v=.agg #[.int .i64 0,.slice none 0 0])∨(acC d ll l=0∧∃ (gs:List (List Nat)) (L:List Nat) (a:Option Addr) (c:Nat),ll=gs.map Ma.ofN∧l=Ma.ofN L∧v=.agg #[.int .i64 ((Bk.mny L 0:Nat):Int),.slice a gs.length c]∧Rg.Rows w (.slice a gs.length c) ((gs.map (Bk.acB L)).map Ma.ofN))
theorem AcAns.shape {w:World} {d:Int} {ll:List (List Int)} {l:List Int} {v:Value} (h:AcAns w d ll l v):∃ e a n c,v=.agg #[.int .i64 e,.slice a n c]:=by
 rcases h with ⟨_,rfl⟩ | ⟨_,_,_,_,_,_,_,rfl,_⟩
 ·exact ⟨_,_,_,_,rfl⟩
 ·exact ⟨_,_,_,_,rfl⟩
theorem AcAns.below {w w':World} {d:Int} {ll:List (List Int)} {l:List Int} {v:Value} (h:AcAns w d ll l v) (hb:Below w.heap.size w w'):AcAns w' d ll l v:=by
 rcases h with h | ⟨h0,gs,L,a,c,h1,h2,h3,h4⟩
 ·exact .inl h
 ·exact .inr ⟨h0,gs,L,a,c,h1,h2,h3,h4.below hb⟩
theorem AcAns.both {w:World} {d e1 e2:Int} {ll:List (List Int)} {l:List Int} {a1 a2:Option Addr} {n1 n2 c1 c2:Nat} (h:AcAns w d ll l (.agg #[.int .i64 e1,.slice a1 n1 c1])) (h':AcAns w d ll l (.agg #[.int .i64 e2,.slice a2 n2 c2])):e1=e2∧∃ rr,Rg.Rows w (.slice a1 n1 c1) rr∧Rg.Rows w (.slice a2 n2 c2) rr:=by
 rcases h with ⟨h0,e⟩ | ⟨h0,gs,L,a,c,h1,h2,h3,h4⟩
 ·rcases h' with ⟨_,e'⟩ | ⟨h0',_⟩
  ·simp only [Value.agg.injEq,Array.mk.injEq,List.cons.injEq,Value.int.injEq,true_and,Value.slice.injEq,and_true] at e e'
   obtain ⟨rfl,rfl,rfl,rfl⟩:=e;obtain ⟨rfl,rfl,rfl,rfl⟩:=e';exact ⟨rfl,[],Rg.Rows.nil _ none 0 (Nat.zero_le _),Rg.Rows.nil _ none 0 (Nat.zero_le _)⟩
  ·exact absurd h0' h0
 ·rcases h' with ⟨h0',_⟩ | ⟨_,gs',L',a',c',k1,k2,k3,k4⟩
  ·exact absurd h0 h0'
  ·simp only [Value.agg.injEq,Array.mk.injEq,List.cons.injEq,Value.int.injEq,true_and,Value.slice.injEq,and_true] at h3 k3
   obtain ⟨rfl,rfl,rfl,rfl⟩:=h3;obtain ⟨rfl,rfl,rfl,rfl⟩:=k3;have e1:=map_ofN_inj (h1.symm.trans k1)
   have e2:L=L':=by
    have:=congrArg (List.map Int.toNat) (h2.symm.trans k2)
    rwa [toN1,toN1] at this
   subst e1 e2;exact ⟨rfl,_,h4,k4⟩
structure AcM (w W:World) (gb d:Nat) (F:Nat→Prop) (gv:Value) (gs:List (List Nat)):Prop where
 bel:Below w.heap.size w W
 g0:CL W gb 0 (.int .i64 ((d:Nat):Int))
 g1:W.cell? ⟨gb,1,none⟩=some gv
 gf:W.frozen? ⟨gb,1,none⟩=false
 rw:RowH w.heap.size F (fun z=>z=gb) W gv gs
 nF:¬ F gb
 Flt:∀ z,F z→z<W.heap.size
 lo:w.heap.size≤gb
 Flo:∀ z,F z→w.heap.size≤z
theorem AcM.up {w W W':World} {gb d:Nat} {F:Nat→Prop} {gv:Value} {gs:List (List Nat)} (h:AcM w W gb d F gv gs) (hb:Below W.heap.size W W'):AcM w W' gb d (Fup F W W') gv gs:=by
 have hk:Rg.Kp (fun _=>False) W W':=Rg.Kp.of_below hb;have hg:=hk.block gb h.g0.lt id;refine ⟨Rg.acc h.bel hb,h.g0.up hb,(World.cell?_of_block (a:=⟨gb,1,none⟩) hg).trans h.g1,(World.frozen?_of_block (a:=⟨gb,1,none⟩) hg).trans h.gf,h.rw.upk hk (fun _ _=>id) (fun _ e=>e.elim),fun hf=>?_,fun z hf=>?_,h.lo,fun z hf=>hf.elim (h.Flo z) (fun e=>Nat.le_trans h.bel.size e.1)⟩
 ·rcases hf with hf | hf
  ·exact h.nF hf
  ·have:=h.g0.lt; omega
 ·rcases hf with hf | hf
  ·exact Nat.lt_of_lt_of_le (h.Flt z hf) hb.size
  ·exact hf.2
theorem AcM.push {w W:World} {gb d:Nat} {F:Nat→Prop} {gv:Value} {gs:List (List Nat)} (h:AcM w W gb d F gv gs) {u:Value} {y:List Nat} (hu:FP F W u y) (hs:∃ a m c,u=.slice a m c) (hn:gs.length<1000000) (ty:TypeId) :
  ∃ a c X,(Builtin.append_ #[22,22] ty #[gv,.slice (some ⟨W.heap.size,0,none⟩) 1 1]).run Tryz.prog (W.alloc (.cells #[u] 51))=.ok (.slice a (gs.length+1) c) X∧X.cell? ⟨gb,1,none⟩=some gv∧X.frozen? ⟨gb,1,none⟩=false ∧
   AcM w (X.setCell ⟨gb,1,none⟩ (.slice a (gs.length+1) c)) gb d F (.slice a (gs.length+1) c) (gs++[y]):=by
 obtain ⟨a,c,X,r1,r2,r3⟩:=h.rw.push hu hs h.Flt (fun z e=>by subst e; exact h.g0.lt) hn ty;have hO:¬ gv.ownBlock=some gb:=fun e=>(h.rw.off gb e).2 rfl;have hkg:=r3.block gb h.g0.lt hO;have hc1:=(World.cell?_of_block (a:=⟨gb,1,none⟩) hkg).trans h.g1;have hf1:=(World.frozen?_of_block (a:=⟨gb,1,none⟩) hkg).trans h.gf;have hk2:Rg.Kp (fun z=>z=gb) X (X.setCell ⟨gb,1,none⟩ (.slice a (gs.length+1) c)):=Rg.Kp.of_setCell rfl;have hbX:Below w.heap.size w X:=Rg.Kp.below h.bel r3 (fun z e=>(h.rw.lt z e).1);refine ⟨a,c,X,r1,hc1,hf1,⟨Rg.Kp.below hbX hk2 (fun z e=>e▸h.lo),?_,World.cell?_setCell_same (h:=hc1) ..,by rw [World.frozen?_setCell]; exact hf1,r2.kp hk2 (fun z hz e=>h.nF (e▸hz)) (fun k e e2=>?_),h.nF,fun z hz=>Nat.lt_of_lt_of_le (h.Flt z hz) (Nat.le_trans r3.size hk2.size),h.lo,h.Flo⟩⟩
 ·refine ⟨?_,Nat.lt_of_lt_of_le h.g0.lt (Nat.le_trans r3.size hk2.size)⟩
  rw [World.cell?_setCell_other (h:=by intro e; injection e with e1 e2; omega) ..]
  exact (World.cell?_of_block (a:=⟨gb,0,none⟩) hkg).trans h.g0.cell
 ·subst e2
  exact (r2.off k e).2 rfl
theorem AcM.start {w W:World} {gb d:Nat} (hb:Below w.heap.size w W) (h0:CL W gb 0 (.int .i64 ((d:Nat):Int))) (h1:W.cell? ⟨gb,1,none⟩=some (.slice none 0 0)) (hf:W.frozen? ⟨gb,1,none⟩=false) (hlo:w.heap.size≤gb):AcM w W gb d (fun _=>False) (.slice none 0 0) [] :=
 ⟨hb,h0,h1,hf,RowH.nil _ _ _ _ hb.size,id,fun _ h=>h.elim,hlo,fun _ h=>h.elim⟩
end Go.Proofs.YthehbckogieimaaGreat

namespace Go.Proofs.YthehbckogieimaaGreat
open Go.RowKit
open Go.Proofs
open Go.Proofs.Ob
open Go.Proofs.Cm (Gd)
attribute [local irreducible] Go.Calls Go.wpList
theorem Hpcl0 (args:Array Value) (w:World):(callFunc 81 args).run Tryz.prog w=.ok (.enter 81 args) w:=by kernel_rfl
theorem Hpcl1 (args:Array Value) (w:World):(callFunc 16 args).run Tryz.prog w=.ok (.enter 16 args) w:=by kernel_rfl
theorem Hpcl2 (args:Array Value) (w:World):(callFunc 82 args).run Tryz.prog w=.ok (.enter 82 args) w:=by kernel_rfl
theorem Hpcl3 (args:Array Value) (w:World):(callFunc 18 args).run Tryz.prog w=.ok (.enter 18 args) w:=by kernel_rfl
theorem Hpcl4 (args:Array Value) (w:World):(callFunc 83 args).run Tryz.prog w=.ok (.enter 83 args) w:=by kernel_rfl
theorem Hpcl5 (args:Array Value) (w:World):(callFunc 84 args).run Tryz.prog w=.ok (.enter 84 args) w:=by kernel_rfl
theorem Hpcl6 (args:Array Value) (w:World):(callFunc 22 args).run Tryz.prog w=.ok (.enter 22 args) w:=by kernel_rfl
theorem hbd_10 {d:Int} {ll:List (List Int)} (hd:d≤10):∀ (D:Nat) (gs:List (List Nat)),d=D→ll=gs.map Ma.ofN→GG D gs→trn gs D=true→D≤24→∀ T:List (List Nat),T.Nodup→(∀ y∈T,Bk.RcB D gs.length (img gs) y)→T.length≤200000 :=
 fun D gs h1 _ hg _ _ T hT hr=>Nat.le_trans (Bk.rcb_few (img_lt hg) hT hr) (Bk.cnt_10 D (by omega))
theorem All_yes {D:Nat} {gs:List (List Nat)} {T0:List (List Nat)} (hz:Ma.gchk ((D:Nat):Int) (gs.map Ma.ofN)=0) (ht:trn gs D=true) (hD:D≤24) (hT:Bk.AllB D gs.length (img gs) T0) (ha:AscL T0) (hf:T0.length≤200000) (gv:Value) (w:World) (h:Rg.Rows w gv (gs.map Ma.ofN)) :
  Calls Tryz.prog 16 #[.agg #[.int .i64 ((D:Nat):Int),gv]] w fun e w'=>∃ v,e=.returned (.tuple #[v,.int .i64 0])∧Rg.Rows w' v (T0.map Ma.ofN)∧Below w.heap.size w w':=by
 refine (All_any gv _ _ w h (fun D' gs' h1 h2 hg _ _ T hn hr=>?_)).mono ?_
 ·obtain rfl:D=D':=by omega
  obtain rfl:=map_ofN_inj h2;exact Nat.le_trans (nodup_le hn fun y hy=>(hT.2 y).2 (hr y hy)) hf
 ·rintro e w' ⟨hb,⟨h0,_⟩ | ⟨_,D',gs',h1,h2,⟨h3,_⟩ | ⟨_,h3,_⟩ | ⟨_,_,T,v,rfl,hr,hall,hasc⟩⟩⟩
  ·exact absurd hz h0
  ·obtain rfl:D=D':=by omega
   obtain rfl:=map_ofN_inj h2;rw [ht] at h3; cases h3
  ·omega
  ·obtain rfl:D=D':=by omega
   obtain rfl:=map_ofN_inj h2;rw [allB_eq hall hasc hT ha] at hr;exact ⟨v,rfl,hr,hb⟩
theorem Prim_b {D:Nat} {gs:List (List Nat)} {b:Bool} (hz:Ma.gchk ((D:Nat):Int) (gs.map Ma.ofN)=0) (hb:b=true↔PrB D gs) (gv:Value) (w:World) (h:Rg.Rows w gv (gs.map Ma.ofN)) :
  Calls Tryz.prog 18 #[.agg #[.int .i64 ((D:Nat):Int),gv]] w fun e w'=>e=.returned (.tuple #[.bool b,.int .i64 0])∧Below w.heap.size w w':=by
 refine (Primitive_any gv _ _ w h).mono ?_
 rintro e w' ⟨hb',⟨h0,_⟩ | ⟨_,D',gs',b',h1,h2,rfl,h3⟩⟩
 ·exact absurd hz h0
 ·obtain rfl:D=D':=by omega
  obtain rfl:=map_ofN_inj h2
  have e:b'=b:=by
   cases b <;> cases b'
   ·rfl
   ·exact absurd (hb.2 (h3.1 rfl)) (by decide)
   ·exact absurd (h3.2 (hb.1 rfl)) (by decide)
   ·rfl
  rw [e]; exact ⟨rfl,hb'⟩
theorem run_buildL3 (X:World) (u1 u2 u3:Value) (h1:∃ a n c,u1=.slice a n c) (h2:∃ a n c,u2=.slice a n c) (h3:∃ a n c,u3=.slice a n c):(Instr.buildSlice 27 3 #[(0,u1),(1,u2),(2,u3)]).run Tryz.prog X=.ok (.slice (some ⟨X.heap.size,0,none⟩) 3 3) (X.alloc (.cells #[u1,u2,u3] 36)):=by
 obtain ⟨i0,hi,hz0,hz1,hz2⟩:=info_parts infoIntsV;obtain ⟨_,_,_,rfl⟩:=h1;obtain ⟨_,_,_,rfl⟩:=h2;obtain ⟨_,_,_,rfl⟩:=h3;refine run_buildSlice X 27 36 3 _ _ i0 _ Tryz.underlying27 hi hz0 (by rw [hz1]; decide) (by rw [hz1]; decide) ?_;generalize (fun x=>((Value.slice none 0 0).cells)[x % (Value.slice none 0 0).cells.size]!)=f;rw [hz1];have h1:Array.range (3*1)=#[0,1,2]:=rfl;simp [Instr.fill,Value.cells,h1]
theorem exec_buildL3 {o:Oper} {a:Act} {w w':World} {v u1 u2 u3:Value} (x1 x2 x3:Operand) (ho:o.op=.buildSlice 27 3 #[(0,x1),(1,x2),(2,x3)]) (h1:a.eval x1=u1) (h2:a.eval x2=u2) (h3:a.eval x3=u3)
  (hr:(Instr.buildSlice 27 3 #[(0,u1),(1,u2),(2,u3)]).run Tryz.prog w=.ok v w'):(execOp a.eval o).run Tryz.prog w=.ok (.value v) w':=by
 subst h1 h2 h3;unfold execOp;simp only [ho,Sem.run_bind,Sem.run_pure];simp only [List.map_toArray,List.map_cons,List.map_nil];rw [hr];rfl
theorem rows3_new {w:World} {u1 u2 u3:Value} {l1 l2 l3:List Int} (h1:Rg.Ints w u1 l1) (h2:Rg.Ints w u2 l2) (h3:Rg.Ints w u3 l3) (t:TypeId):Rg.Rows (w.alloc (.cells #[u1,u2,u3] t)) (.slice (some ⟨w.heap.size,0,none⟩) 3 3) [l1,l2,l3]:=by
 refine ⟨[u1,u2,u3],⟨_,3,rfl,Nat.le_refl _,by show 3≤_; unfold maxLen; omega,by simp [Rg.big],fun _=>⟨w.heap.size,0,rfl,by simp,fun i hi=>?_⟩⟩,rfl,fun i a b=>?_⟩
 ·rw [Nat.zero_add,Rg.cellNew]
  match i,hi with
  | 0,_=>rfl
  | 1,_=>rfl
  | 2,_=>rfl
 ·match i,a,b with
  | 0,_,_=>exact h1.below ((Below.refl _ _).alloc (Nat.le_refl _) _)
  | 1,_,_=>exact h2.below ((Below.refl _ _).alloc (Nat.le_refl _) _)
  | 2,_,_=>exact h3.below ((Below.refl _ _).alloc (Nat.le_refl _) _)
theorem awake12_any (w:World):Calls Tryz.prog 15 #[] w fun e w'=>e=.returned (.bool true)∧Below w.heap.size w w':=by
 have K:=ι (Below.refl w.heap.size w)
 go_enter Tryz.func15,Tryz.ntmps15
 go_upto_region 0 with (fail);refine wp_region_list ?_;refine Rg.la 0 (.bool false) ?_;go_frame;go_upto_region 1 with (fail);refine wp_region_list ?_;refine list_ask (some 6) rfl rfl _ _ (exec_fn1 81 _ _ rfl rfl (Hpcl0 _ _)) ?_;refine (cyclic_any 4 w (by decide) (by decide)).mono ?_;rintro e1 w1 ⟨a1,c1,rfl,hg1,hb⟩;refine ⟨_,rfl,?_⟩;go_frame;replace K:=ι (Rg.acc K.out hb);clear hb;have HG1:=ι hg1;refine list_ask (some 7) rfl rfl _ _ (exec_fn1 16 _ _ rfl rfl (Hpcl1 _ _)) ?_;refine (All_yes (T0:=[[0,0,0,0],[0,1,0,1],[0,1,2,3]]) cy4_g cy4_t (by decide) cy4_all cy4_asc (by decide) _ w1 HG1.out).mono ?_;rintro e1 w2 ⟨v,rfl,hv,hb⟩;refine ⟨_,rfl,?_⟩;go_frame;replace HG1:=ι (HG1.out.below hb);replace K:=ι (Rg.acc K.out hb);clear hb;have AV:=ι hv;refine Rg.lm 5 (.tuple #[v,.int .i64 0]) ?_;go_frame;refine Rg.lr 8 (exec_extract (v:=v) _ _ rfl rfl rfl) ?_;go_frame
 refine Rg.lr 9 (exec_extract (v:=.int .i64 0) _ _ rfl rfl rfl) ?_;go_frame;refine Rg.la 1 (v) ?_;go_frame;refine Rg.la 2 (.int .i64 0) ?_;go_frame;clear hv hg1 HG1;go_upto_region 2 with (fail);refine wp_region_list ?_;refine list_ask (some 11) rfl rfl _ _ (exec_fn0 82 _ rfl (Hpcl2 _ _)) ?_;refine (four12_any w2).mono ?_;rintro e1 w3 ⟨ga,gn,gc,rfl,hgr,hb⟩;refine ⟨_,rfl,?_⟩;go_frame;replace AV:=ι (AV.out.below hb);replace K:=ι (Rg.acc K.out hb);clear hb;have G4:=ι hgr.rows;refine list_ask (some 12) rfl rfl _ _ (exec_fn1 18 _ _ rfl rfl (Hpcl3 _ _)) ?_;refine (Prim_b (D:=4) (gs:=gs4) (b:=true) gs4_g ⟨fun _=>gs4_p,fun _=>rfl⟩ _ w3 G4.out).mono ?_;rintro e1 w4 ⟨rfl,hb⟩;refine ⟨_,rfl,?_⟩;go_frame;replace AV:=ι (AV.out.below hb);replace G4:=ι (G4.out.below hb);replace K:=ι (Rg.acc K.out hb);clear hb;refine Rg.lm 10 (.tuple #[.bool true,.int .i64 0]) ?_;go_frame
 refine Rg.lr 13 (exec_extract (v:=.bool true) _ _ rfl rfl rfl) ?_;go_frame;refine Rg.lr 14 (exec_extract (v:=.int .i64 0) _ _ rfl rfl rfl) ?_;go_frame;refine Rg.la 3 (.bool true) ?_;go_frame;refine Rg.la 4 (.int .i64 0) ?_;go_frame;clear hgr G4;go_upto_region 3 with (fail);refine wp_region_list ?_;refine list_ask (some 15) rfl rfl _ _ (exec_fn1 81 _ _ rfl rfl (Hpcl0 _ _)) ?_;refine (cyclic_any 4 w4 (by decide) (by decide)).mono ?_;rintro e1 w5 ⟨a2,c2,rfl,hg2,hb⟩;refine ⟨_,rfl,?_⟩;go_frame;replace AV:=ι (AV.out.below hb);replace K:=ι (Rg.acc K.out hb);clear hb;have HG2:=ι hg2;have hnew:=ints_new w5 3 [0,1,0,1] (by decide);refine Rg.lr 16 (exec_flat _ _ 4 _ rfl [0,1,0,1] Tryz.underlying36 szInt zInt rfl (by decide) (by decide) rfl) ?_;go_frame;have hb:=(Below.refl w5.heap.size w5).alloc (Nat.le_refl _) (.cells (([0,1,0,1]:List Int).map (Value.int .i64)).toArray 3)
 generalize w5.alloc (.cells (([0,1,0,1]:List Int).map (Value.int .i64)).toArray 3)=w6 at *;replace AV:=ι (AV.out.below hb);replace HG2:=ι (HG2.out.below hb);replace K:=ι (Rg.acc K.out hb);clear hb;have W1:=ι hnew;clear hnew;refine list_ask (some 17) rfl rfl _ _ (exec_fn4 83 _ _ _ _ _ rfl rfl rfl rfl rfl (Hpcl4 _ _)) ?_;refine (least12_any _ 4 [cyl 4] 0 2 [0,1,0,1] _ w6 HG2.out cy4_g (by decide) (by decide) cy4_02 W1.out).mono ?_;rintro e1 w7 ⟨rfl,hb⟩;refine ⟨_,rfl,?_⟩;go_frame;replace AV:=ι (AV.out.below hb);replace HG2:=ι (HG2.out.below hb);replace W1:=ι (W1.out.below hb);replace K:=ι (Rg.acc K.out hb);clear hb;refine Rg.lm 18 (.bool true) ?_;go_frame;refine listW_ask (some 19) rfl rfl _ _ (exec_fn0 84 _ rfl (Hpcl5 _ _)) ?_;refine (two12_any w7).mono ?_;rintro e1 w8 ⟨gb,gm,ge,rfl,hgs,hb⟩;refine ⟨_,rfl,?_⟩;go_frame;replace AV:=ι (AV.out.below hb);replace HG2:=ι (HG2.out.below hb)
 replace W1:=ι (W1.out.below hb);replace K:=ι (Rg.acc K.out hb);clear hb;have G2:=ι hgs.rows;have hnew:=ints_new w8 3 [0,0,0,0] (by decide);refine listW_run (some 20) rfl rfl (exec_flat _ _ 4 _ rfl [0,0,0,0] Tryz.underlying36 szInt zInt rfl (by decide) (by decide) rfl) ?_;go_frame;have hb:=(Below.refl w8.heap.size w8).alloc (Nat.le_refl _) (.cells (([0,0,0,0]:List Int).map (Value.int .i64)).toArray 3);generalize w8.alloc (.cells (([0,0,0,0]:List Int).map (Value.int .i64)).toArray 3)=w9 at *;replace AV:=ι (AV.out.below hb);replace HG2:=ι (HG2.out.below hb);replace W1:=ι (W1.out.below hb);replace G2:=ι (G2.out.below hb);replace K:=ι (Rg.acc K.out hb);clear hb;have W2:=ι hnew;clear hnew;refine listW_ask (some 21) rfl rfl _ _ (exec_fn4 83 _ _ _ _ _ rfl rfl rfl rfl rfl (Hpcl4 _ _)) ?_;refine (least12_any _ 4 gs2 0 2 [0,0,0,0] _ w9 G2.out gs2_g (by decide) (by decide) gs2_02 W2.out).mono ?_
 rintro e1 w10 ⟨rfl,hb⟩;refine ⟨_,rfl,?_⟩;go_frame;replace AV:=ι (AV.out.below hb);replace HG2:=ι (HG2.out.below hb);replace W1:=ι (W1.out.below hb);replace G2:=ι (G2.out.below hb);replace W2:=ι (W2.out.below hb);replace K:=ι (Rg.acc K.out hb);clear hb;refine Rg.lr 22 (exec_pickT (v:=.bool true) _ _ _ rfl rfl rfl) ?_;go_frame;refine Rg.lm 23 (.bool true) ?_;go_frame;refine listW_run (some 24) rfl rfl (Rg.xm (.int .i64 0) _ rfl rfl) ?_;go_frame;refine listW_run (some 25) rfl rfl (exec_eqI _ _ rfl rfl rfl rfl) ?_;go_frame;refine Rg.lr 26 (exec_pickT (v:=.bool true) _ _ _ rfl rfl rfl) ?_;go_frame;refine Rg.lm 27 (.bool true) ?_;go_frame;refine listW_run (some 28) rfl rfl (Rg.xm (v) _ rfl rfl) ?_;go_frame;have hnew:=ints_new w10 3 [0,0,0,0] (by decide);refine listW_run (some 29) rfl rfl (exec_flat _ _ 4 _ rfl [0,0,0,0] Tryz.underlying36 szInt zInt rfl (by decide) (by decide) rfl) ?_;go_frame
 have hb:=(Below.refl w10.heap.size w10).alloc (Nat.le_refl _) (.cells (([0,0,0,0]:List Int).map (Value.int .i64)).toArray 3);generalize w10.alloc (.cells (([0,0,0,0]:List Int).map (Value.int .i64)).toArray 3)=w11 at *;replace AV:=ι (AV.out.below hb);replace HG2:=ι (HG2.out.below hb);replace W1:=ι (W1.out.below hb);replace G2:=ι (G2.out.below hb);replace W2:=ι (W2.out.below hb);replace K:=ι (Rg.acc K.out hb);clear hb;have W3:=ι hnew;clear hnew;have hnew:=ints_new w11 3 [0,1,0,1] (by decide);refine listW_run (some 30) rfl rfl (exec_flat _ _ 4 _ rfl [0,1,0,1] Tryz.underlying36 szInt zInt rfl (by decide) (by decide) rfl) ?_;go_frame;have hb:=(Below.refl w11.heap.size w11).alloc (Nat.le_refl _) (.cells (([0,1,0,1]:List Int).map (Value.int .i64)).toArray 3);generalize w11.alloc (.cells (([0,1,0,1]:List Int).map (Value.int .i64)).toArray 3)=w12 at *
 replace AV:=ι (AV.out.below hb);replace HG2:=ι (HG2.out.below hb);replace W1:=ι (W1.out.below hb);replace G2:=ι (G2.out.below hb);replace W2:=ι (W2.out.below hb);replace W3:=ι (W3.out.below hb);replace K:=ι (Rg.acc K.out hb);clear hb;have W4:=ι hnew;clear hnew;have hnew:=ints_new w12 3 [0,1,2,3] (by decide);refine listW_run (some 31) rfl rfl (exec_flat _ _ 4 _ rfl [0,1,2,3] Tryz.underlying36 szInt zInt rfl (by decide) (by decide) rfl) ?_;go_frame;have hb:=(Below.refl w12.heap.size w12).alloc (Nat.le_refl _) (.cells (([0,1,2,3]:List Int).map (Value.int .i64)).toArray 3);generalize w12.alloc (.cells (([0,1,2,3]:List Int).map (Value.int .i64)).toArray 3)=w13 at *;replace AV:=ι (AV.out.below hb);replace HG2:=ι (HG2.out.below hb);replace W1:=ι (W1.out.below hb);replace G2:=ι (G2.out.below hb);replace W2:=ι (W2.out.below hb);replace W3:=ι (W3.out.below hb)
 replace W4:=ι (W4.out.below hb);replace K:=ι (Rg.acc K.out hb);clear hb;have W5:=ι hnew;clear hnew;have hr3:=rows3_new W3.out W4.out W5.out 36;refine listW_run (some 32) rfl rfl (exec_buildL3 (u1:=.slice (some ⟨w10.heap.size,0,none⟩) 4 4) (u2:=.slice (some ⟨w11.heap.size,0,none⟩) 4 4) (u3:=.slice (some ⟨w12.heap.size,0,none⟩) 4 4) _ _ _ rfl rfl rfl rfl (run_buildL3 w13 _ _ _ ⟨_,_,_,rfl⟩ ⟨_,_,_,rfl⟩ ⟨_,_,_,rfl⟩)) ?_;go_frame;have hb:=(Below.refl w13.heap.size w13).alloc (Nat.le_refl _) (.cells #[.slice (some ⟨w10.heap.size,0,none⟩) 4 4,.slice (some ⟨w11.heap.size,0,none⟩) 4 4,.slice (some ⟨w12.heap.size,0,none⟩) 4 4] 36);generalize w13.alloc (.cells #[.slice (some ⟨w10.heap.size,0,none⟩) 4 4,.slice (some ⟨w11.heap.size,0,none⟩) 4 4,.slice (some ⟨w12.heap.size,0,none⟩) 4 4] 36)=w14 at *;replace AV:=ι (AV.out.below hb);replace HG2:=ι (HG2.out.below hb)
 replace W1:=ι (W1.out.below hb);replace G2:=ι (G2.out.below hb);replace W2:=ι (W2.out.below hb);replace W3:=ι (W3.out.below hb);replace W4:=ι (W4.out.below hb);replace W5:=ι (W5.out.below hb);replace K:=ι (Rg.acc K.out hb);clear hb;have R3:=ι hr3;clear hr3;refine listW_ask (some 33) rfl rfl _ _ (exec_fn 22 _ _ _ rfl rfl rfl (Hpcl6 _ _)) ?_;refine (SameLists_b AV.out R3.out (ι (decide_eq_true rfl))).mono ?_;rintro e1 w15 ⟨rfl,hb⟩;refine ⟨_,rfl,?_⟩;go_frame;replace AV:=ι (AV.out.below hb);replace HG2:=ι (HG2.out.below hb);replace W1:=ι (W1.out.below hb);replace G2:=ι (G2.out.below hb);replace W2:=ι (W2.out.below hb);replace W3:=ι (W3.out.below hb);replace W4:=ι (W4.out.below hb);replace W5:=ι (W5.out.below hb);replace R3:=ι (R3.out.below hb);replace K:=ι (Rg.acc K.out hb);clear hb;refine Rg.lr 34 (exec_pickT (v:=.bool true) _ _ _ rfl rfl rfl) ?_;go_frame
 refine Rg.lm 35 (.bool true) ?_;go_frame;refine listW_run (some 36) rfl rfl (Rg.xm (.bool true) _ rfl rfl) ?_;go_frame;refine Rg.lr 37 (exec_pickT (v:=.bool true) _ _ _ rfl rfl rfl) ?_;go_frame;refine Rg.lm 38 (.bool true) ?_;go_frame;refine listW_run (some 39) rfl rfl (Rg.xm (.int .i64 0) _ rfl rfl) ?_;go_frame;refine listW_run (some 40) rfl rfl (exec_eqI _ _ rfl rfl rfl rfl) ?_;go_frame;refine Rg.lr 41 (exec_pickT (v:=.bool true) _ _ _ rfl rfl rfl) ?_;go_frame;refine Rg.la 0 (.bool true) ?_;go_frame;go_wp2;go_ret;exact ⟨rfl,K.out⟩
structure NpI (w:World) (v:Value) (l:List Int):Prop where
 i:Rg.Ints w v l
theorem NpI.below {w w':World} {v:Value} {l:List Int} (h:NpI w v l) (hb:Below w.heap.size w w'):NpI w' v l:=⟨h.i.below hb⟩
end Go.Proofs.YthehbckogieimaaGreat
