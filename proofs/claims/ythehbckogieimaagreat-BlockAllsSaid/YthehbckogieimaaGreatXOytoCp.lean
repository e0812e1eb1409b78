/- Lemmas and contracts on the way to the statement; no condition of their own beyond those written. -/
import Derived.Test.YthehbckogieimaaGreatXObtoKi
import Derived.WideMake
import Derived.MapKept
import Derived.ChangeMaps5
import Derived.Deep.CutRange
import Derived.Deep.CutBlock
import Derived.IntWalk
import Derived.Great.BuildSlice
import Derived.ArgAppend
import Derived.Laws.CopyOwn
import Derived.StillTailTactics
import Derived.Deep.MidRow
import Derived.WalkSpells
import Derived.WalkLawsBesides
import Derived.Maps.AppendAt
import Derived.OwnWalk
import Derived.OrdersHeld
import Derived.Deep.OwnRows
import Derived.WalkKit
import Derived.Lib.Hide
import Derived.Laws.OwnMore
import Derived.Test.YthehbckogieimaaGreatProg
import Derived.Outline
import Derived.Deep.DeepFit
import Derived.BigQuiet
import Derived.Deep.QuietTactic
import Derived.Shelf.Sort.Plain
import Derived.Sort.OwnSortedInts
set_option linter.unusedVariables false
set_option linter.unusedSimpArgs false
set_option maxRecDepth 100000
set_option maxHeartbeats 8000000
namespace Go.Proofs.YthehbckogieimaaGreat
open Go.RowKit
open Go.Proofs
open Go.Proofs.Ob
attribute [local irreducible] Go.Calls
theorem exec_callV1 {o:Oper} {a:Act} {w:World} (F:FuncId) (x y:Operand) (tys:Array TypeId) (ho:o.op=.call { callee:=.value x,args:=#[y],argTypes:=tys }) (hx:a.eval x=.func (.func F) #[] #[]) {u:Value} (hy:a.eval y=u)
  (hF:(callFunc F #[u]).run Tryz.prog w=.ok (.enter F #[u]) w):(execOp a.eval o).run Tryz.prog w=.ok (.enter F #[u]) w:=by
 unfold execOp;simp [ho,hx,hy,resolve,invoke,Deferred.ofValue,hF]
theorem exec_callV2 {o:Oper} {a:Act} {w:World} (F:FuncId) (x y z:Operand) (tys:Array TypeId) (ho:o.op=.call { callee:=.value x,args:=#[y,z],argTypes:=tys }) (hx:a.eval x=.func (.func F) #[] #[]) {u v:Value} (hy:a.eval y=u) (hz:a.eval z=v)
  (hF:(callFunc F #[u,v]).run Tryz.prog w=.ok (.enter F #[u,v]) w):(execOp a.eval o).run Tryz.prog w=.ok (.enter F #[u,v]) w:=by
 unfold execOp;simp [ho,hx,hy,hz,resolve,invoke,Deferred.ofValue,hF]
theorem clIm1 (args:Array Value) (w:World):(callFunc 300 args).run Tryz.prog w=.ok (.enter 300 args) w:=by kernel_rfl
theorem clIm2 (args:Array Value) (w:World):(callFunc 301 args).run Tryz.prog w=.ok (.enter 301 args) w:=by kernel_rfl
theorem im1_any (b o n c q:Nat) (x:Int) (w:World) (hq:q<n) (h:w.cell? ⟨b,o+q,none⟩=some (.int .i64 x)):Calls Tryz.prog 300 #[.int .i64 ((q:Nat):Int),.slice (some ⟨b,o,none⟩) n c] w fun e w'=>e=.returned (.int .i64 x)∧Below w.heap.size w w':=by
 have hqn:(q:Int)<(n:Int):=by omega
 go_enter Tryz.func300,Tryz.ntmps300
 go_wp2;go_ret;exact ⟨rfl,Below.refl _ _⟩
theorem im2_any (x:Int) (w:World):Calls Tryz.prog 301 #[.int .i64 x] w fun e w'=>e=.returned (.int .i64 x)∧Below w.heap.size w w':=by
 go_enter Tryz.func301,Tryz.ntmps301
 go_wp2;go_ret;exact ⟨rfl,Below.refl _ _⟩
theorem im2_same (x:Int) (w:World):Calls Tryz.prog 301 #[.int .i64 x] w fun e w'=>e=.returned (.int .i64 x)∧w'=w:=by
 go_enter Tryz.func301,Tryz.ntmps301
 go_wp2;go_ret;exact ⟨rfl,rfl⟩
theorem exec_makeMap {o:Oper} {a:Act} {w:World} (t:TypeId) (ho:o.op=.makeMap t none):(execOp a.eval o).run Tryz.prog w=.ok (.value (.map (some w.heap.size))) (w.alloc (.map #[] 0)):=by
 unfold execOp;have h:=run_makeMap_plain (P:=Tryz.prog) w t;simp [ho,h,Result.andThen]
theorem len_pvs (T:List En):(pvs T).length=T.length:=by simp [pvs,pts]
def SpanAt (B:Nat) (w:World) (r:Nat) (v:Value) (T:List En):Prop :=
 B≤w.heap.size∧B≤r∧w.ownsRow B 3 1 v T.length (pvs T)∧IMap w r (Ma.ofN (pts T))∧v.ownBlock≠some r
theorem SpanAt.below {B r:Nat} {w w':World} {v:Value} {T:List En} (h:SpanAt B w r v T) (hb:Below w.heap.size w w'):SpanAt B w' r v T :=
 ⟨Nat.le_trans h.1 hb.size,h.2.1,Rg.row_below h.2.2.1 hb,h.2.2.2.1.below hb,h.2.2.2.2⟩
theorem SpanAt.put {B r:Nat} {w:World} {v:Value} {T:List En} (h:SpanAt B w r v T) (e:En) (he:e.1∉pts T) (hT:T.length<1000) (ty:TypeId) :
  ∃ w1,(Instr.mapUpdate 306 (.map (some r)) (.int .i64 ((e.1:Nat):Int)) (.bool true)).run Tryz.prog w=.ok () w1 ∧
   ∃ v' X,(Builtin.append_ #[36,36] ty #[v,.slice (some ⟨w1.heap.size,0,none⟩) 1 1]).run Tryz.prog (w1.alloc (.cells #[.int .i64 ((e.1:Nat):Int)] 3))=.ok v' X∧SpanAt B X r v' (T++[e])∧Below B w X∧Below B w w1:=by
 obtain ⟨h1,h2,h3,h4,h5⟩:=h;obtain ⟨w1,m1,m2,m3⟩:=h4.put ((e.1:Nat):Int) (fun hx=>he ((mem_ofN _ _).1 hx));have hr1:=Rg.row_keep h3 m3 (.inr h5);have hb1:Below B w w1:=(Below.refl _ _).grown m3 h1 (fun j hj=>by cases hj; exact h2);have hba:Below w1.heap.size w1 (w1.alloc (.cells #[.int .i64 ((e.1:Nat):Int)] 3)):=(Below.refl _ _).alloc (Nat.le_refl _) _;have hsz:w.heap.size≤w1.heap.size:=m3.size;have hrl:r<w1.heap.size:=m2.lt;obtain ⟨v',X,r1,r2,r3,r4,_⟩:=app_run (P:=Tryz.prog) slInts ty (Rg.row_below hr1 hba) (by simp; omega) w1.heap.size 1 (u:=.int .i64 ((e.1:Nat):Int)) (by rw [Rg.cellNew]; rfl) rfl (by omega);have hX:(w1.alloc (.cells #[.int .i64 ((e.1:Nat):Int)] 3)).heap.size≤X.heap.size:=r3.size
 have hs2:(w1.alloc (.cells #[.int .i64 ((e.1:Nat):Int)] 3)).heap.size=w1.heap.size+1:=by simp
 have e1:pvs (T++[e])=pvs T++[.int .i64 ((e.1:Nat):Int)]:=by simp [pvs,pts]
 have e2:Ma.ofN (pts (T++[e]))=Ma.ofN (pts T)++[((e.1:Nat):Int)]:=by simp [Ma.ofN,pts]
 have hne:v'.ownBlock≠some r:=by
  rcases r4 with r4 | r4
  ·rw [r4]; exact h5
  ·rw [r4,hs2]; intro e; injection e with e; omega
 refine ⟨w1,m1,v',X,r1,⟨by omega,h2,by rw [e1,List.length_append]; exact r2,by rw [e2]; exact (m2.below hba).grown r3 (fun e=>h5 e.symm),hne⟩,?_,hb1⟩;exact (hb1.alloc (by omega) _).grown r3 (by omega) (fun j hj=>(hr1.lt j hj).1)
theorem SpanAt.start {w:World} {p:Nat}:∃ w1,(Instr.mapUpdate 306 (.map (some w.heap.size)) (.int .i64 ((p:Nat):Int)) (.bool true)).run Tryz.prog (w.alloc (.map #[] 0))=.ok () w1 ∧
  SpanAt w.heap.size (w1.alloc (.cells #[.int .i64 ((p:Nat):Int)] 3)) w.heap.size (.slice (some ⟨w1.heap.size,0,none⟩) 1 1) [(p,-1,0,[])]∧Below w.heap.size w (w1.alloc (.cells #[.int .i64 ((p:Nat):Int)] 3))∧Below w.heap.size w w1:=by
 obtain ⟨w1,m1,m2,m3⟩:=(IMap.new w).put ((p:Nat):Int) (by simp);have hb0:Below w.heap.size w (w.alloc (.map #[] 0)):=(Below.refl _ _).alloc (Nat.le_refl _) _
 have hs0:(w.alloc (.map #[] 0)).heap.size=w.heap.size+1:=by simp
 have hb1:Below w.heap.size w w1:=hb0.grown m3 (by omega) (fun j hj=>by cases hj; exact Nat.le_refl _);have hs1:(w.alloc (.map #[] 0)).heap.size≤w1.heap.size:=m3.size;have hba:Below w1.heap.size w1 (w1.alloc (.cells #[.int .i64 ((p:Nat):Int)] 3)):=(Below.refl _ _).alloc (Nat.le_refl _) _
 have hne:(Value.slice (some ⟨w1.heap.size,0,none⟩) 1 1).ownBlock≠some w.heap.size:=by
  intro e
  have h0:w1.heap.size=w.heap.size:=by simpa [Value.ownBlock] using e
  omega
 exact ⟨w1,m1,⟨by simp; omega,Nat.le_refl _,own_mono (own_one w1 w1.heap.size 3 _ (Nat.le_refl _)) (by omega),m2.below hba,hne⟩,hb1.alloc (by omega) _,hb1⟩
theorem span_any (gv:Value) (D:Nat) (gs:List (List Nat)) (p:Nat) (w:World) (h:Rg.NRows w gv gs) (hg:GG D gs) (h2:D≤64) (hp:p<D) (hgl:gs.length≤16) :
  Calls Tryz.prog 299 #[.int .i64 ((p:Nat):Int),gv,.int .i64 64,.func (.func 300) #[] #[],.func (.func 301) #[] #[]] w fun e w'=>∃ v,e=.returned (.tuple #[v,.bool true])∧w'.ownsRow w.heap.size 3 1 v (tree gs D p).length (pvs (tree gs D p))∧Below w.heap.size w w':=by
 obtain ⟨ga,gc,rfl,_,_,_,hgr⟩:=h.shape;have HG:=ι hgr;have HGG:=ι hg;clear h hgr hg
 go_enter Tryz.func299,Tryz.ntmps299
 go_upto_region 1 with (fail);refine wp_region_list ?_;refine Rg.lr 19 (exec_makeMap _ rfl) ?_;go_frame;refine Rg.lm 20 (.func (.func 301) #[] #[]) ?_;go_frame;refine Rg.lm 21 (.int .i64 ((p:Nat):Int)) ?_;go_frame;refine list_ask (some 22) rfl rfl _ _ (exec_callV1 301 _ _ _ rfl rfl rfl (clIm2 _ _)) ?_;refine (im2_same _ _).mono ?_;rintro e1 W1 ⟨rfl,rfl⟩;refine ⟨_,rfl,?_⟩;go_frame;obtain ⟨w1,m1,m2,m3,m4⟩:=SpanAt.start (w:=w) (p:=p);refine Rg.list_skip none rfl rfl (Rg.exec_insert _ _ _ _ rfl _ _ _ rfl rfl rfl m1) ?_;go_frame;refine Rg.lm 23 (.map (some w.heap.size)) ?_;go_frame;refine Rg.la 12 (.map (some w.heap.size)) ?_;go_frame;go_upto_region 2 with (fail);refine wp_region_list ?_;refine Rg.lm 24 (.int .i64 ((p:Nat):Int)) ?_;go_frame;refine Rg.lr 25 (Rg.exec_buildSlice _ _ _ rfl _ rfl (run_build1i w1 ((p:Nat):Int))) ?_;go_frame;refine Rg.la 13 (.slice (some ⟨w1.heap.size,0,none⟩) 1 1) ?_;go_frame
 have HS:=ι m2;have HB:=ι m3;clear m1 m2 m3 m4;generalize w1.alloc (.cells #[.int .i64 ((p:Nat):Int)] 3)=w2 at *;generalize w1.heap.size=bb at *
 have hgl':(gs.length:Int)≤16:=by omega
 go_wp2
 go_loopw [13,14] (fun fv i wr=>∃ k:Nat,k≤(trI gs p k).length∧i=.int .i64 k∧Hid (SpanAt w.heap.size wr w.heap.size fv (trI gs p k))∧Hid (Below w.heap.size w wr)) (fun _ i _=>D - (intOf i).toNat)
 case atStart=>exact ⟨0,by omega,rfl,HS,HB⟩
 case round =>
  clear HS HB;obtain ⟨k,hkl,rfl,hs,hbel⟩:=hrel;have hok:=trI_ok (p:=p) HGG.out.cl hp k;have hTD:=hok.len;obtain ⟨pa,pc,hpe,_,_,_,hpr⟩:=(Rg.Vals.of_row hs.out.2.2.1 (by omega)).shape;rw [len_pvs] at hpe;subst hpe
  by_cases hlt:k<(trI gs p k).length
  ·obtain ⟨e,he⟩:∃ e,Hid (e=(trI gs p k)[k]):=⟨_,ι rfl⟩
   have heD:e.1<D:=hok.lt _ (List.mem_map.2 ⟨_,by rw [he.out]; exact List.getElem_mem hlt,rfl⟩)
   have hkT:(k:Int)<((trI gs p k).length:Int):=by omega
   have hst:=ι (trI_some hlt);have HOK:=ι hok;have HLT:=ι hlt;clear hpr hok;go_wp2
   go_loopw [13,34] (fun fv i wr=>∃ s:Nat,s≤gs.length∧i=.int .i64 s∧Hid (SpanAt w.heap.size wr w.heap.size fv (innG gs e (trI gs p k) s))∧Hid (Below w.heap.size w wr)) (fun _ i _=>gs.length - (intOf i).toNat)
   case atStart=>exact ⟨0,by omega,rfl,hs,hbel⟩
   case round =>
    clear hs hbel;obtain ⟨s,hsn,rfl,hs,hbel⟩:=hrel
    by_cases hls:s<gs.length
    ·have hokI:Ok D gs.length p (innG gs e (trI gs p k) s):=by
      rw [he.out];exact HOK.out.inn hlt (fun s hs=>HGG.out.cl s hs _ (HOK.out.lt _ (List.mem_map.2 ⟨_,List.getElem_mem hlt,rfl⟩))) s (by omega)
     obtain ⟨hi0,hie⟩:=innG_get (gs:=gs) (e:=e) (T:=trI gs p k) (n:=s) hlt;have hTD2:=hokI.len;obtain ⟨T,hT⟩:∃ T,Hid (T=innG gs e (trI gs p k) s):=⟨_,ι rfl⟩
     have hnx:innG gs e (trI gs p k) (s+1)=putG gs e T s:=by rw [hT.out]; exact innG_succ gs e _ s
     have HNX:=ι hnx;simp only [← hT.out] at hs hokI hi0 hie hTD2;obtain ⟨pa2,pc2,hpe2,_,_,_,hpr2⟩:=(Rg.Vals.of_row hs.out.2.2.1 (by omega)).shape;rw [len_pvs] at hpe2;obtain ⟨pb,po,e1,hpb,hpc⟩:=hpr2 (by rw [len_pvs]; omega);subst e1;subst hpe2;have hq1:=hpc k (by rw [len_pvs]; exact hi0);rw [show (pvs T)[k]'(by rw [len_pvs]; exact hi0)=Value.int .i64 ((e.1:Nat):Int) by rw [he.out,← hie]; simp [pvs,pts]] at hq1;obtain ⟨bg,og,rfl,hbg,hgcell⟩:=HG.out (by omega);obtain ⟨u,hu,hun⟩:=hgcell s hls;obtain ⟨ua,uc,rfl,_,_,_,hucell⟩:=hun.shape;have hgs:=HGG.out _ (List.getElem_mem hls);obtain ⟨bu,ou,rfl,hbu,huc⟩:=hucell (by omega);have hq:=huc e.1 (by omega);obtain ⟨x,hxi⟩:∃ x,Hid (img gs s e.1=x):=⟨_,ι rfl⟩;rw [show gs[s][e.1]'(by omega)=x from (img_get hls (by omega)).symm.trans hxi.out] at hq;have hlu:gs[s].length=D:=hgs.2;rw [hlu] at hu
     have c1:=ι ((hbel.out.cell (p:=⟨bg,og+s,none⟩) hbg).trans hu);have c2:=ι ((hbel.out.cell (p:=⟨bu,ou+e.1,none⟩) hbu).trans hq);have c3:=ι hq1;have HLS:=ι hls;have HI0:=ι hi0;have HIE:=ι (hie.trans he.out.symm);have HOI:=ι hokI
     have hsI:(s:Int)<(gs.length:Int):=by omega
     clear hgcell hu hun hucell hgs huc hq hbg hbu hlu hq1 hpc hpr2 hnx hi0 hie hokI;go_upto_region 8 with (fail);refine wp_region_list ?_;refine Rg.lr 36 (exec_indexS slPerms _ _ rfl bg og gs.length gc s rfl rfl HLS.out) ?_;go_frame;refine Rg.lr 37 (Rg.exec_load (v:=.slice (some ⟨bu,ou,none⟩) D uc) _ _ rfl ⟨bg,og+s,none⟩ rfl (Rg.run_loadSl _ _ Tryz.underlying51 c1.out)) ?_;go_frame;refine Rg.la 16 (.slice (some ⟨bu,ou,none⟩) D uc) ?_;go_frame;go_upto_region 9 with (fail);refine wp_region_list ?_;refine Rg.lm 38 (.func (.func 300) #[] #[]) ?_;go_frame;refine Rg.lm 39 (.slice (some ⟨pb,po,none⟩) T.length pc2) ?_;go_frame;refine Rg.lm 40 (.int .i64 ((k:Nat):Int)) ?_;go_frame;refine Rg.lr 41 (exec_indexS slInts _ _ rfl pb po T.length pc2 k rfl rfl HI0.out) ?_;go_frame;refine Rg.lr 42 (Rg.exec_load (v:=.int .i64 ((e.1:Nat):Int)) _ _ rfl ⟨pb,po+k,none⟩ rfl (run_loadInt c3.out)) ?_;go_frame
     refine Rg.lm 43 (.slice (some ⟨bu,ou,none⟩) D uc) ?_;go_frame;refine list_ask (some 44) rfl rfl _ _ (exec_callV2 300 _ _ _ _ rfl rfl rfl rfl (clIm1 _ _)) ?_;refine (im1_any bu ou D uc e.1 ((x:Nat):Int) wr heD c2.out).mono ?_;rintro e1 W1 ⟨rfl,hb1⟩;refine ⟨_,rfl,?_⟩;go_frame;refine Rg.la 17 (.int .i64 ((x:Nat):Int)) ?_;go_frame;have HS1:=ι (hs.out.below hb1);have HB1:=ι (Rg.acc hbel.out hb1);clear hs hbel hb1 c1 c2 c3;go_upto_region 10 with (fail);refine wp_region_list ?_;refine Rg.lm 45 (.func (.func 301) #[] #[]) ?_;go_frame;refine Rg.lm 46 (.int .i64 ((x:Nat):Int)) ?_;go_frame;refine list_ask (some 47) rfl rfl _ _ (exec_callV1 301 _ _ _ rfl rfl rfl (clIm2 _ _)) ?_;refine (im2_any _ _).mono ?_;rintro e1 W2 ⟨rfl,hb2⟩;refine ⟨_,rfl,?_⟩;go_frame;refine Rg.la 18 (.int .i64 ((x:Nat):Int)) ?_;go_frame;have HS2:=ι (HS1.out.below hb2);have HB2:=ι (Rg.acc HB1.out hb2)
     clear HS1 HB1 hb2
     by_cases hm:x∈pts T
     ·have hd:decide (((x:Nat):Int)∈Ma.ofN (pts T))=true:=decide_eq_true ((mem_ofN _ _).2 hm)
      have HD:=ι hd;have HN:=ι (show putG gs e T s=T from putG_in (by rw [hxi.out]; exact hm));clear hd hm;go_upto_region 11 with (fail);refine wp_region_list ?_;refine Rg.lm 48 (.map (some w.heap.size)) ?_;go_frame;refine Rg.lm 49 (.int .i64 ((x:Nat):Int)) ?_;go_frame;have hlk:=HS2.out.2.2.2.1.look ((x:Nat):Int);rw [HD.out] at hlk;refine Rg.lr 50 (Rg.exec_lookup _ _ _ _ rfl _ _ rfl rfl hlk) ?_;go_frame;clear hlk;go_wp2
      go_roundw
      case rel=>exact ⟨s+1,by omega,by go_num,ι (by rw [HNX.out,HN.out]; exact HS2.out),HB2⟩
      case measure=>simp [intOf]; omega
     ·have hd:decide (((x:Nat):Int)∈Ma.ofN (pts T))=false:=decide_eq_false (fun h=>hm ((mem_ofN _ _).1 h))
      have HD:=ι hd;have hpo:=putG_out (gs:=gs) (e:=e) (T:=T) (s:=s) (by rw [hxi.out]; exact hm);rw [hxi.out] at hpo;have HN:=ι hpo
      have hxD:x<D:=by rw [← hxi.out]; exact HGG.out.cl s HLS.out _ heD
      have hlen:T.length+1≤D:=by
       have h1:=HOI.out.put (i:=k) (s:=s) (gs:=gs) HI0.out HLS.out;rw [HIE.out,hpo] at h1;have h2:=(h1 (by rw [hxi.out]; exact hxD)).len
       simpa using h2
      have HM:=ι hm
      have hT64:¬ (T.length:Int)=64:=by omega
      clear hd hm hpo;go_upto_region 11 with (fail);refine wp_region_list ?_;refine Rg.lm 48 (.map (some w.heap.size)) ?_;go_frame;refine Rg.lm 49 (.int .i64 ((x:Nat):Int)) ?_;go_frame;have hlk:=HS2.out.2.2.2.1.look ((x:Nat):Int);rw [HD.out] at hlk;refine Rg.lr 50 (Rg.exec_lookup _ _ _ _ rfl _ _ rfl rfl hlk) ?_;go_frame;clear hlk;obtain ⟨w3,m1,v3,X3,m2,m3,m4,m5⟩:=HS2.out.put (x,(e.1:Int),s+1,e.2.2.2++[s+1]) HM.out (by omega) 36;go_upto_region 14 with (fail);refine wp_region_list ?_;refine Rg.lm 55 (.map (some w.heap.size)) ?_;go_frame;refine Rg.lm 56 (.int .i64 ((x:Nat):Int)) ?_;go_frame;refine Rg.list_skip none rfl rfl (Rg.exec_mapUpdate _ _ _ _ rfl _ _ _ rfl rfl rfl m1) ?_;go_frame;go_upto_region 15 with (fail);refine wp_region_list ?_;refine Rg.lm 57 (.slice (some ⟨pb,po,none⟩) T.length pc2) ?_;go_frame;refine Rg.lm 58 (.int .i64 ((x:Nat):Int)) ?_;go_frame
      refine Rg.lr 59 (Rg.exec_buildSlice _ _ _ rfl _ rfl (run_build1i w3 ((x:Nat):Int))) ?_;go_frame;refine Rg.lr 60 (Rg.exec_append _ _ _ rfl rfl rfl m2) ?_;go_frame;refine Rg.la 13 (v3) ?_;go_frame;have HS3:=ι (show SpanAt w.heap.size X3 w.heap.size v3 (innG gs e (trI gs p k) (s+1)) by rw [HNX.out,HN.out]; exact m3);have HB3:=ι (HB2.out.trans m4);clear m1 m2 m3 m4 m5;go_wp2
      go_roundw
      case rel=>exact ⟨s+1,by omega,by go_num,HS3,HB3⟩
      case measure=>simp [intOf]; omega
    ·obtain rfl:s=gs.length:=by omega
     have HS:=ι (show SpanAt w.heap.size wr w.heap.size u13 (trI gs p (k+1)) by rw [hst.out,← he.out]; exact hs.out)
     have hkl2:k+1≤(trI gs p (k+1)).length:=by
      rw [hst.out,← he.out];obtain ⟨h1,_⟩:=innG_get (gs:=gs) (e:=e) (T:=trI gs p k) (n:=gs.length) hlt;omega
     have hkD:=(HOK.out).len;have HKL:=ι hkl2;clear hs hkl2;go_wp2
     go_roundw
     case rel=>exact ⟨k+1,HKL.out,by go_num,HS,hbel⟩
     case measure=>simp [intOf]; omega
  ·have hle:(trI gs p k).length≤k:=by omega
   have hkD:k≤D:=by omega
   have htr:=tree_at hle hkD;have HR:=ι (show wr.ownsRow w.heap.size 3 1 (.slice pa (trI gs p k).length pc) (tree gs D p).length (pvs (tree gs D p)) by rw [htr]; exact hs.out.2.2.1)
   have hnk:¬ (k:Int)<((trI gs p k).length:Int):=by omega
   clear htr hpr hs;go_wp2
   go_ret2
   exact ⟨_,rfl,HR.out,hbel.out⟩
end Go.Proofs.YthehbckogieimaaGreat

namespace Go.Proofs
open Go.Shelf
def Tryz.lays189_ren:Go.Shelf.Ren:=⟨fun | 189=>264 | 125=>174 | 257=>310 | 128=>253 | 129=>254 | 294=>320 | 295=>321 | 296=>322 | 297=>323 | 298=>324 | 299=>325 | 216=>259 | 300=>326 | 301=>327 | 328=>328 | 329=>303 | 330=>304 | 331=>329 | 332=>330 | 215=>244 | 343=>331 | n=>n,fun | 28=>36 | 3=>3 | 46=>185 | 0=>0 | 51=>259 | 53=>261 | 4=>4 | 183=>253 | 182=>252 | 131=>121 | 5=>5 | 9=>9 | 218=>293 | 222=>297 | 228=>307 | 229=>308 | n=>n,fun | n=>n⟩
theorem Tryz.lays189:Go.Proofs.Lays.n189 Tryz.prog Tryz.lays189_ren:={
 mixed:=by kernel_rfl
 f125:=Tryz.func174.trans (congrArg some (by kernel_rfl))
 f128:=Tryz.func253.trans (congrArg some (by kernel_rfl))
 f129:=Tryz.func254.trans (congrArg some (by kernel_rfl))
 f189:=Tryz.func264.trans (congrArg some (by kernel_rfl))
 f215:=Tryz.func244.trans (congrArg some (by kernel_rfl))
 f216:=Tryz.func259.trans (congrArg some (by kernel_rfl))
 f257:=Tryz.func310.trans (congrArg some (by kernel_rfl))
 f294:=Tryz.func320.trans (congrArg some (by kernel_rfl))
 f295:=Tryz.func321.trans (congrArg some (by kernel_rfl))
 f296:=Tryz.func322.trans (congrArg some (by kernel_rfl))
 f297:=Tryz.func323.trans (congrArg some (by kernel_rfl))
 f298:=Tryz.func324.trans (congrArg some (by kernel_rfl))
 f299:=Tryz.func325.trans (congrArg some (by kernel_rfl))
 f300:=Tryz.func326.trans (congrArg some (by kernel_rfl))
 f301:=Tryz.func327.trans (congrArg some (by kernel_rfl))
 f328:=Tryz.func328.trans (congrArg some (by kernel_rfl))
 f329:=Tryz.func303.trans (congrArg some (by kernel_rfl))
 f330:=Tryz.func304.trans (congrArg some (by kernel_rfl))
 f331:=Tryz.func329.trans (congrArg some (by kernel_rfl))
 f332:=Tryz.func330.trans (congrArg some (by kernel_rfl))
 f343:=Tryz.func331.trans (congrArg some (by kernel_rfl))
 t0:=Tryz.underlying0
 a0:=Tryz.isAgg0
 z0:=Tryz.sizeOf0
 v0:=Tryz.zeroValue0
 t3:=Tryz.underlying3
 a3:=Tryz.isAgg3
 z3:=Tryz.sizeOf3
 v3:=Tryz.zeroValue3
 t4:=Tryz.underlying4
 a4:=Tryz.isAgg4
 z4:=Tryz.sizeOf4
 v4:=Tryz.zeroValue4
 t5:=Tryz.underlying5
 a5:=Tryz.isAgg5
 z5:=Tryz.sizeOf5
 v5:=Tryz.zeroValue5
 t9:=Tryz.underlying9
 a9:=Tryz.isAgg9
 z9:=Tryz.sizeOf9
 v9:=Tryz.zeroValue9
 t28:=Tryz.underlying36
 a28:=Tryz.isAgg36
 z28:=Tryz.sizeOf36
 v28:=Tryz.zeroValue36
 t46:=Tryz.underlying185
 a46:=Tryz.isAgg185
 z46:=Tryz.sizeOf185
 v46:=Tryz.zeroValue185
 t51:=Tryz.underlying259
 a51:=Tryz.isAgg259
 z51:=Tryz.sizeOf259
 v51:=Tryz.zeroValue259
 t53:=Tryz.underlying261
 a53:=Tryz.isAgg261
 z53:=Tryz.sizeOf261
 v53:=Tryz.zeroValue261
 t131:=Tryz.underlying121
 a131:=Tryz.isAgg121
 z131:=Tryz.sizeOf121
 v131:=Tryz.zeroValue121
 t182:=Tryz.underlying252
 a182:=Tryz.isAgg252
 z182:=Tryz.sizeOf252
 v182:=Tryz.zeroValue252
 t183:=Tryz.underlying253
 a183:=Tryz.isAgg253
 z183:=Tryz.sizeOf253
 v183:=Tryz.zeroValue253
 t218:=Tryz.underlying293
 a218:=Tryz.isAgg293
 z218:=Tryz.sizeOf293
 v218:=Tryz.zeroValue293
 t222:=Tryz.underlying297
 a222:=Tryz.isAgg297
 z222:=Tryz.sizeOf297
 v222:=Tryz.zeroValue297
 t228:=Tryz.underlying307
 a228:=Tryz.isAgg307
 z228:=Tryz.sizeOf307
 v228:=Tryz.zeroValue307
 t229:=Tryz.underlying308
 a229:=Tryz.isAgg308
 z229:=Tryz.sizeOf308
 v229:=Tryz.zeroValue308 }
open Go.Sort Go.RowKit in
theorem Tryz.slices_Sort_int (blk off cap:Nat) (zs:List Int) (w:World) (hH:Holds (Value.int .i64) w blk off zs.toArray) (hblk:blk<w.heap.size) (hsz:zs.length<4611686018427387904) :
  Calls Tryz.prog 264 #[.slice (some ⟨blk,off,none⟩) zs.length cap] w fun e w' =>
   e=.returned (.tuple #[])∧∃ n os,w'=grow (putRow (Value.int .i64) (Sort.ahead w n) blk off (zs.mergeSort fun x y=>decide (x≤y)).toArray) os:=Any.slices_Sort_int Tryz.lays189 blk off cap zs w hH hblk hsz
end Go.Proofs

namespace Go.Proofs.YthehbckogieimaaGreat
open Go.RowKit
open Go.Proofs
open Go.Proofs.Ob
attribute [local irreducible] Go.Calls
theorem asc_length (l:List Int):(asc l).length=l.length:=by
 rw [asc_sort]; exact List.length_mergeSort _
theorem pvs_ofN (T:List En):pvs T=(Ma.ofN (pts T)).map (Value.int .i64):=by
 unfold pvs Ma.ofN; rw [List.map_map]; rfl
theorem ozcl0 (args:Array Value) (w:World):(callFunc 299 args).run Tryz.prog w=.ok (.enter 299 args) w:=by kernel_rfl
theorem ozcl1 (args:Array Value) (w:World):(callFunc 264 args).run Tryz.prog w=.ok (.enter 264 args) w:=by kernel_rfl
theorem sort_own (B n:Nat) (v:Value) (l:List Int) (w:World) (h:w.ownsRow B 3 1 v n (l.map (Value.int .i64))) (hn:0<n) (hm:n≤1000000000) :
  Calls Tryz.prog 264 #[v] w fun e w'=>(∃ r,e=.returned r)∧w'.ownsRow B 3 1 v n ((asc l).map (Value.int .i64))∧w.grownBy w' v.ownBlock:=by
 obtain ⟨h1,h2⟩:=h
 have hl:l.length=n:=by simpa using h1
 rcases h2 with ⟨_,h0⟩ | ⟨g,cap,cur,rfl,hg,hc,h3,h4,h5,h6⟩
 ·omega
 subst hl;rw [Nat.mul_one] at h6;have hH:=holds_of_blockI hc h6;refine (Tryz.slices_Sort_int g 0 cap l w hH (Array.getElem?_eq_some_iff.1 hc).1 (by omega)).mono ?_;rintro e w' ⟨rfl,N,os,rfl⟩;have e1:(l.mergeSort fun x y=>decide (x≤y))=asc l:=(asc_sort l).symm;rw [e1];refine ⟨⟨_,rfl⟩,ownsRow_sortedI (asc_length l) hg hc h3 h4 h5,grownBy_sortedI _⟩
theorem images_any (gv:Value) (D:Nat) (gs:List (List Nat)) (p:Nat) (w:World) (h:Rg.NRows w gv gs) (hg:GG D gs) (h2:D≤64) (hp:p<D) (hgl:gs.length≤16) :
  Calls Tryz.prog 242 #[.agg #[.int .i64 ((D:Nat):Int),gv],.int .i64 ((p:Nat):Int)] w fun e w'=>∃ v,e=.returned v∧w'.ownsRow w.heap.size 3 1 v (tree gs D p).length ((asc (Ma.ofN (pts (tree gs D p)))).map (Value.int .i64))∧Below w.heap.size w w':=by
 obtain ⟨ga,gc,rfl,_,_,_,_⟩:=h.shape;have hok:=tree_ok hg.cl hp;have hlen:=hok.len
 have hpos:0<(tree gs D p).length:=by
  have:=hok.hd
  rcases Nat.eq_zero_or_pos (tree gs D p).length with h0 | h0
  ·rw [List.getElem?_eq_none (by omega)] at this; cases this
  ·exact h0
 have hba:Below w.heap.size w (w.alloc (.cells #[.int .i64 ((D:Nat):Int),.slice ga gs.length gc] 24)):=(Below.refl _ _).alloc (Nat.le_refl _) _;have K:=ι hba;have K0:=K;have GA0:=ι (GA.new (D:=D) h);have HS:=ι fun W (hW:Rg.NRows W (.slice ga gs.length gc) gs)=>span_any (.slice ga gs.length gc) D gs p W hW hg h2 hp hgl;obtain ⟨T,hT⟩:∃ T,Hid (T=tree gs D p):=⟨_,ι rfl⟩;rw [← hT.out] at HS hlen hpos ⊢;clear h hg hok hba hT
 go_enter Tryz.func242,Tryz.ntmps242
 go_upto_region 1 with (fail);generalize w.alloc (.cells #[.int .i64 ((D:Nat):Int),.slice ga gs.length gc] 24)=w0 at *;refine wp_region_list ?_;refine Rg.lm 8 (.int .i64 ((p:Nat):Int)) ?_;go_frame;refine Rg.lr 9 (exec_fieldG _ rfl rfl) ?_;go_frame;refine Rg.lr 10 (Rg.exec_load (v:=.slice ga gs.length gc) _ _ rfl ⟨w.heap.size,1,none⟩ rfl (Rg.run_loadSl _ _ Tryz.underlying22 GA0.out.c1)) ?_;go_frame;refine list_ask (some 11) rfl rfl _ _ (exec_fn5 299 _ _ _ _ _ _ rfl rfl rfl rfl rfl rfl (ozcl0 _ _)) ?_;refine (HS.out _ GA0.out.rows).mono ?_;rintro e1 w1 ⟨sv,rfl,hsv,hb⟩;have hsw:=hsv;refine ⟨_,rfl,?_⟩;go_frame;replace GA0:=ι (GA0.out.below hb);replace K:=ι (Rg.acc K.out hb);clear hb;refine Rg.lm 7 (.tuple #[sv,.bool true]) ?_;go_frame;refine Rg.lr 12 (exec_extract (v:=sv) _ _ rfl rfl rfl) ?_;go_frame;refine Rg.lr 13 (exec_extract (v:=.bool true) _ _ rfl rfl rfl) ?_;go_frame
 refine Rg.la 5 (sv) ?_;go_frame;refine Rg.la 6 (.bool true) ?_;go_frame;clear hsw;rw [pvs_ofN] at hsv;have HSV:=ι hsv;have hne:∀ b,sv.ownBlock=some b→w0.heap.size≤b:=fun b e=>(hsv.lt b e).1;clear hsv;go_upto_region 2 with (fail);refine wp_region_list ?_;refine Rg.lm 14 (sv) ?_;go_frame;refine list_ask (some 15) rfl rfl _ _ (exec_fn1 264 _ _ rfl rfl (ozcl1 _ _)) ?_;refine (sort_own w0.heap.size T.length sv _ w1 HSV.out hpos (by omega)).mono ?_;rintro e1 w2 ⟨⟨r,rfl⟩,hso,hgb⟩;refine ⟨_,rfl,?_⟩;go_frame;have HSO:=ι hso;have hs0:=K0.out.size;have HK:=ι (K.out.grown hgb K.out.size (fun k hk=>Nat.le_trans hs0 (hne k hk)));clear hso hgb hne;go_wp2;go_ret;exact ⟨_,rfl,own_mono HSO.out hs0,HK.out⟩

theorem vacl0 (args:Array Value) (w:World):(callFunc 85 args).run Tryz.prog w=.ok (.enter 85 args) w:=by kernel_rfl
theorem vacl1 (args:Array Value) (w:World):(callFunc 241 args).run Tryz.prog w=.ok (.enter 241 args) w:=by kernel_rfl
theorem vacl2 (args:Array Value) (w:World):(callFunc 242 args).run Tryz.prog w=.ok (.enter 242 args) w:=by kernel_rfl
def orbS (d:Int) (ll:List (List Int)) (p:Int):List Int × Int:=if ptE d ll p=0 then (asc (Ma.ofN (pts (tree (toNs ll) d.toNat p.toNat))),0) else ([],ptE d ll p)
theorem orbS_ok {D P:Nat} {gs:List (List Nat)} (h:ptE (D:Int) (gs.map Ma.ofN) (P:Int)=0):orbS (D:Int) (gs.map Ma.ofN) (P:Int)=(asc (Ma.ofN (pts (tree gs D P))),0):=by
 unfold orbS;rw [if_pos h,toNs_ofN]; rfl
theorem Orbit_any (gv:Value) (d:Int) (ll:List (List Int)) (p:Int) (w:World) (h:Rg.Rows w gv ll) :
  Calls Tryz.prog 166 #[.agg #[.int .i64 d,gv],.int .i64 p] w (LPost (orbS d ll p) w):=by
 by_cases hz:ptE d ll p=0
 ·obtain ⟨D,gs,P,rfl,rfl,rfl,hgg,hD1,hD2,hgl,hP⟩:=ptE_ok hz
  rw [orbS_ok hz];have h':Rg.NRows w gv gs:=h;obtain ⟨ga,gc,rfl,_,_,_,_⟩:=h'.shape
  have hck:∀ W v,Rg.Rows W v (gs.map Ma.ofN)→Calls Tryz.prog 85 #[.agg #[.int .i64 D,v]] W fun e w'=>e=.returned (.int .i64 0)∧Below W.heap.size W w':=fun W v hW=>by have:=orbitCheck_any v (D:Int) _ W hW; rwa [(ptE_zero hz).1] at this
  have HPT:=ι (ptE_zero hz).2;have hba:Below w.heap.size w (w.alloc (.cells #[.int .i64 ((D:Nat):Int),.slice ga gs.length gc] 24)):=(Below.refl _ _).alloc (Nat.le_refl _) _;have K:=ι hba;have GA0:=ι (GA.new (D:=D) h');have HCK:=ι hck;have HIM:=ι fun W (hW:Rg.NRows W (.slice ga gs.length gc) gs)=>images_any (.slice ga gs.length gc) D gs P W hW hgg hD2 hP hgl;have HLN:=ι (show (tree gs D P).length≤64 from Nat.le_trans (tree_ok hgg.cl hP).len hD2);clear h h' hba hck hz
  go_enter Tryz.func166,Tryz.ntmps166
  go_upto_region 1 with (fail);generalize w.alloc (.cells #[.int .i64 ((D:Nat):Int),.slice ga gs.length gc] 24)=w0 at *;refine wp_region_list ?_;refine Rg.lr 7 (Rg.exec_load (v:=.agg #[.int .i64 ((D:Nat):Int),.slice ga gs.length gc]) _ _ rfl ⟨w.heap.size,0,none⟩ rfl (run_loadG GA0.out.c0 GA0.out.c1)) ?_;go_frame;refine list_ask (some 8) rfl rfl _ _ (exec_fn1 85 _ _ rfl rfl (vacl0 _ _)) ?_;refine (HCK.out _ _ GA0.out.rows).mono ?_;rintro e1 w1 ⟨rfl,hb⟩;refine ⟨_,rfl,?_⟩;go_frame;replace GA0:=ι (GA0.out.below hb);replace K:=ι (Rg.acc K.out hb);clear hb;refine Rg.la 6 (.int .i64 0) ?_;go_frame;go_upto_region 4 with (fail);refine wp_region_list ?_;refine Rg.lr 12 (Rg.exec_load (v:=.agg #[.int .i64 ((D:Nat):Int),.slice ga gs.length gc]) _ _ rfl ⟨w.heap.size,0,none⟩ rfl (run_loadG GA0.out.c0 GA0.out.c1)) ?_;go_frame;refine Rg.lm 13 (.int .i64 ((P:Nat):Int)) ?_;go_frame
  refine list_ask (some 14) rfl rfl _ _ (exec_fn 241 _ _ _ rfl rfl rfl (vacl1 _ _)) ?_;refine (point_any _ _ _ w1).mono ?_;rintro e1 w2 ⟨rfl,hb⟩;rw [HPT.out];refine ⟨_,rfl,?_⟩;go_frame;replace GA0:=ι (GA0.out.below hb);replace K:=ι (Rg.acc K.out hb);clear hb;refine Rg.lr 15 (exec_not _ _ true rfl rfl) ?_;go_frame;go_upto_region 6 with (fail);refine wp_region_list ?_;refine Rg.lr 16 (Rg.exec_load (v:=.agg #[.int .i64 ((D:Nat):Int),.slice ga gs.length gc]) _ _ rfl ⟨w.heap.size,0,none⟩ rfl (run_loadG GA0.out.c0 GA0.out.c1)) ?_;go_frame;refine Rg.lm 17 (.int .i64 ((P:Nat):Int)) ?_;go_frame;refine list_ask (some 18) rfl rfl _ _ (exec_fn 242 _ _ _ rfl rfl rfl (vacl2 _ _)) ?_;refine (HIM.out _ GA0.out.rows).mono ?_;rintro e1 w3 ⟨ov,rfl,hov,hb⟩;refine ⟨_,rfl,?_⟩;go_frame;replace GA0:=ι (GA0.out.below hb);replace K:=ι (Rg.acc K.out hb);clear hb;have HOV:=ι hov;refine Rg.la 4 (ov) ?_;go_frame
  refine Rg.la 5 (.int .i64 ((0:Nat):Int)) ?_;go_frame;go_wp2
  go_ret2
  exact ⟨_,rfl,Rg.Ints.of_row (n:=(tree gs D P).length) HOV.out (by have:=HLN.out; omega),K.out⟩
 ·have hr:orbS d ll p=([],ptE d ll p):=if_neg hz
  rw [hr];obtain ⟨ga,gc,rfl,_⟩:=h.shape;have hba:Below w.heap.size w (w.alloc (.cells #[.int .i64 d,.slice ga ll.length gc] 24)):=(Below.refl _ _).alloc (Nat.le_refl _) _
  have hc0:(w.alloc (.cells #[.int .i64 d,.slice ga ll.length gc] 24)).cell? ⟨w.heap.size,0,none⟩=some (.int .i64 d):=by rw [Rg.cellNew]; rfl
  have hc1:(w.alloc (.cells #[.int .i64 d,.slice ga ll.length gc] 24)).cell? ⟨w.heap.size,1,none⟩=some (.slice ga ll.length gc):=by rw [Rg.cellNew]; rfl
  have hlt:w.heap.size<(w.alloc (.cells #[.int .i64 d,.slice ga ll.length gc] 24)).heap.size:=by simp
  have K:=ι hba;have R:=ι (h.below hba);clear h hba hr
  by_cases hg:Ma.gchk d ll=0
  ·have hp:isPt d p=false:=by
    cases hq:isPt d p with
    | true=>exact absurd (by unfold ptE; rw [if_pos hg,if_pos hq]) hz
    | false=>rfl
   have he:ptE d ll p=2:=by unfold ptE; rw [if_pos hg,if_neg (by rw [hp]; simp)]
   rw [he];have HP:=ι hp;have hck:=orbitCheck_any (.slice ga ll.length gc) d ll _ R.out;rw [hg] at hck;have HCK:=ι hck;clear hck he hz hp hg
   go_enter Tryz.func166,Tryz.ntmps166
   go_wp2_with (first | (go_at_call 85; refine HCK.out.mono ?_; rintro e w1 ⟨rfl,hb1⟩; replace hc0:=(hb1.cell (p:=⟨w.heap.size,0,none⟩) hlt).trans hc0; replace hc1:=(hb1.cell (p:=⟨w.heap.size,1,none⟩) hlt).trans hc1; replace K:=ι (Rg.acc K.out hb1); clear hb1) | (go_at_call 241; refine (point_any _ _ _ _).mono ?_; rintro e w1 ⟨rfl,hb1⟩; rw [HP.out]; replace K:=ι (Rg.acc K.out hb1); clear hb1))
   go_ret2
   exact ⟨_,rfl,Rg.Ints.nil _ _ _ (Nat.zero_le _),K.out⟩
  ·have he:ptE d ll p=Ma.gchk d ll:=if_neg hg
   rw [he];have hck:=orbitCheck_any (.slice ga ll.length gc) d ll _ R.out;obtain ⟨e0,he0⟩:∃ e0,Hid (e0=Ma.gchk d ll):=⟨_,ι rfl⟩;rw [← he0.out] at hck hg ⊢;have HCK:=ι hck;clear hck he hz
   go_enter Tryz.func166,Tryz.ntmps166
   go_wp2_with (go_at_call 85; refine HCK.out.mono ?_; rintro e w1 ⟨rfl,hb1⟩; replace K:=ι (Rg.acc K.out hb1); clear hb1)
   go_ret2
   exact ⟨_,rfl,Rg.Ints.nil _ _ _ (Nat.zero_le _),K.out⟩
end Go.Proofs.YthehbckogieimaaGreat

namespace Go.Proofs.Rg
open Go Go.RowKit
variable {P:Program} {md:Region.Mode} {ops:Array Oper} {Q:Exit→Act→World→Prop} {S:Array Bool→World→Prop}
theorem Any.c2f1 {i k j di dk dj:Nat} {I R0:World→Prop} {Ri Rk Rj:Value→World→Prop} {n:Nat} {l:Array Bool} {a:Act} {w:World} (hS:∀ l W,I W→S l W)
  (ij:i≠j) (kj:k≠j) (dij:di≠dj) (dkj:dk≠dj)
  (r0:Region.ready md ops l=[i,j]) (ri:Region.ready md ops (l.setIfInBounds i true)=[k,j]) (rj:Region.ready md ops (l.setIfInBounds j true)=[i])
  (rik:Region.ready md ops ((l.setIfInBounds i true).setIfInBounds k true)=[j]) (rij:Region.ready md ops ((l.setIfInBounds i true).setIfInBounds j true)=[k])
  (s0:∀ W W',Below W.heap.size W W'→R0 W→R0 W') (si:∀ u W W',Below W.heap.size W W'→Ri u W→Ri u W') (sk:∀ u W W',Below W.heap.size W W'→Rk u W→Rk u W') (sj:∀ u W W',Below W.heap.size W W'→Rj u W→Rj u W')
  (hi:∀ b,(b=a∨∃ u,b=a.put (some dj) u)→∀ W,I W→Does P ops Q i di I Ri (fun W W'=>Below W.heap.size W W') b W)
  (hj:∀ b,(b=a∨(∃ u,b=a.put (some di) u)∨∃ u v,b=(a.put (some di) u).put (some dk) v)→∀ W,I W→Does P ops Q j dj I Rj (fun W W'=>Below W.heap.size W W') b W)
  (hk:∀ u b,(b=a.put (some di) u∨∃ v,b=(a.put (some di) u).put (some dj) v)→∀ W,I W→R0 W→Ri u W→Does P ops Q k dk I Rk (fun W W'=>∀ v,Rj v W→Rj v W') b W)
  (hI:I w) (h0:R0 w) (h:∀ W u x v,I W→Rk x W→Rj v W→Any P md ops Q S n (((l.setIfInBounds i true).setIfInBounds k true).setIfInBounds j true) (((a.put (some di) u).put (some dk) x).put (some dj) v) W) :
  Any P md ops Q S (n+3) l a w:=by
 refine Any.two r0 ?_ ?_
 ·refine wpOp_mono ?_ (hi a (.inl rfl) w hI)
  rintro c W ⟨u,rfl,h1,h2,h3⟩;refine ⟨hS _ _ h1,Any.two ri ?_ ?_⟩
  ·refine wpOp_mono ?_ (hk u _ (.inl rfl) W h1 (s0 _ _ h3 h0) h2)
   rintro c W' ⟨x,rfl,g1,g2,g3⟩;refine ⟨hS _ _ g1,Any.one rik ?_⟩;refine wpOp_mono ?_ (hj _ (.inr (.inr ⟨u,x,rfl⟩)) W' g1);rintro c W'' ⟨v,rfl,e1,e2,e3⟩;exact ⟨hS _ _ e1,h _ _ _ _ e1 (sk _ _ _ e3 g2) e2⟩
  ·refine wpOp_mono ?_ (hj _ (.inr (.inl ⟨u,rfl⟩)) W h1)
   rintro c W' ⟨v,rfl,g1,g2,g3⟩;refine ⟨hS _ _ g1,Any.one rij ?_⟩;refine wpOp_mono ?_ (hk u _ (.inr ⟨v,rfl⟩) W' g1 (s0 _ _ g3 (s0 _ _ h3 h0)) (si _ _ _ g3 h2));rintro c W'' ⟨x,rfl,e1,e2,e3⟩;have:=h W'' u x v e1 e2 (e3 _ g2);rw [put_comm _ x v dkj,Array.setIfInBounds_comm _ _ kj] at this;exact ⟨hS _ _ e1,this⟩
 ·refine wpOp_mono ?_ (hj a (.inl rfl) w hI)
  rintro c W ⟨v,rfl,h1,h2,h3⟩;refine ⟨hS _ _ h1,Any.one rj ?_⟩;refine wpOp_mono ?_ (hi _ (.inr ⟨v,rfl⟩) W h1);rintro c W' ⟨u,rfl,g1,g2,g3⟩;refine ⟨hS _ _ g1,Any.one (by rw [Array.setIfInBounds_comm _ _ (Ne.symm ij)]; exact rij) ?_⟩;rw [put_comm a v u (Ne.symm dij)];refine wpOp_mono ?_ (hk u _ (.inr ⟨v,rfl⟩) W' g1 (s0 _ _ g3 (s0 _ _ h3 h0)) g2);rintro c W'' ⟨x,rfl,e1,e2,e3⟩;have:=h W'' u x v e1 e2 (e3 _ (sj _ _ _ g3 h2));rw [put_comm _ x v dkj,Array.setIfInBounds_comm _ _ kj,Array.setIfInBounds_comm _ _ ij] at this;exact ⟨hS _ _ e1,this⟩
theorem doesRun {i d:Nat} {I:World→Prop} {R:Value→World→Prop} {K:World→World→Prop} {oi:Oper} {b:Act} {W W':World} {v:Value} (hi:ops[i]?=some oi) (hd:oi.dst=some d) (hw:Region.wanted oi (yielded ops b.tmps)=true)
  (hr:(execOp b.eval oi).run P W=.ok (.value v) W') (hp:I W'∧R v W'∧K W W'):Does P ops Q i d I R K b W :=
 wpOp_value (some d) hi hd hw hr ⟨v,rfl,hp⟩
def BlkF (B:Nat) (us:List Value) (v:Value) (w:World):Prop:=∃ p,v=.slice (some ⟨p,0,none⟩) us.length us.length∧B≤p∧p<w.heap.size∧∀ j (h:j<us.length),w.cell? ⟨p,j,none⟩=some us[j]
theorem BlkF.below {B:Nat} {us:List Value} {v:Value} {w w':World} (h:BlkF B us v w) (hb:Below w.heap.size w w'):BlkF B us v w':=by
 obtain ⟨p,e,h0,h1,h2⟩:=h;exact ⟨p,e,h0,Nat.lt_of_lt_of_le h1 hb.size,fun j hj=>(hb.cell (p:=⟨p,j,none⟩) h1).trans (h2 j hj)⟩
theorem BlkF.new {B:Nat} (w:World) (us:List Value) (t:TypeId) (hB:B≤w.heap.size):BlkF B us (.slice (some ⟨w.heap.size,0,none⟩) us.length us.length) (w.alloc (.cells us.toArray t)) :=
 ⟨w.heap.size,rfl,hB,by simp,fun j hj=>by rw [cellNew]; simp [List.getElem?_eq_getElem hj]⟩
theorem BlkF.grown {B:Nat} {us:List Value} {v:Value} {w w':World} {k:Option Nat} (h:BlkF B us v w) (hg:w.grownBy w' k) (hk:∀ j,k=some j→j<B):BlkF B us v w':=by
 obtain ⟨p,e,h0,h1,h2⟩:=h
 exact ⟨p,e,h0,Nat.lt_of_lt_of_le h1 hg.size,fun j hj=>by
  rw [← h2 j hj]
  exact World.cell?_of_block (a:=⟨p,j,none⟩) (hg.block p h1 (fun e=>by have:=hk p e.symm; omega))⟩
theorem BlkF.vals {B:Nat} {us:List Value} {v:Value} {w:World} (h:BlkF B us v w) (hl:us.length≤1000000):Vals w v us:=by
 obtain ⟨p,rfl,h0,h1,h2⟩:=h;exact Vals.mk h1 (Nat.le_refl _) (by unfold maxLen; omega) (by omega) (fun i hi=>by rw [Nat.zero_add]; exact h2 i hi)
end Go.Proofs.Rg

namespace Go.Proofs.YthehbckogieimaaGreat
open Go.RowKit
open Go.Proofs
open Go.Proofs.Ob
attribute [local irreducible] Go.Calls
theorem slice_hi {w0:World} {v:Value} {l:List Int} (h:Rg.Ints w0 v l) (k:Nat) (hk:k≤l.length) :
  ∃ v',(∀ w,(Instr.sliceAt 36 v none (some (.int .i64 (k:Int))) none).run Tryz.prog w=.ok v' w)∧(∀ w,Rg.Ints w v l→Rg.Ints w v' (l.take k))∧∃ a c,v'=.slice a k c:=by
 obtain ⟨a,cap,rfl,h2,h3,h4,h5⟩:=h.shape;refine ⟨.slice a k cap,fun w=>?_,fun w hw=>?_,a,cap,rfl⟩
 ·cases a with
  | none =>
   have hl:l.length=0:=by
    rcases Nat.eq_zero_or_pos l.length with h0 | h0
    ·exact h0
    ·obtain ⟨b,o,e,_⟩:=h5 h0; cases e
   have hk0:k=0:=by omega
   subst hk0;obtain ⟨i0,hi,hz0,hz1,hz2⟩:=info_parts intsInfo;simp [Instr.sliceAt,Instr.slice,run_underlying Tryz.underlying36,Instr.sliceBounds,Instr.sliceBound,asIntOf,sizeOf,typeInfo,hi,Addr.add]
  | some ad =>
   obtain ⟨i0,hi,hz0,hz1,hz2⟩:=info_parts intsInfo;simp [Instr.sliceAt,Instr.slice,run_underlying Tryz.underlying36,Instr.sliceBounds,Instr.sliceBound,asIntOf,sizeOf,typeInfo,hi,Addr.add];intro hh; omega
 ·obtain ⟨a',cap',e,g2,g3,g4,g5⟩:=hw.shape
  simp at e;obtain ⟨rfl,rfl⟩:=e
  have hlen:(l.take k).length=k:=by rw [List.length_take]; omega
  refine ⟨a,cap,by rw [List.length_map,hlen],by rw [List.length_map,hlen]; omega,g4,by rw [List.length_map,hlen]; unfold Rg.big; omega,fun h0=>?_⟩;rw [List.length_map,hlen] at h0;obtain ⟨b,o,e1,e2,e3⟩:=g5 (by omega);refine ⟨b,o,e1,e2,fun i hi=>?_⟩;rw [List.length_map,hlen] at hi;rw [e3 i (by omega)];simp [List.getElem_take]
theorem slice_lo {w0:World} {v:Value} {l:List Int} (h:Rg.Ints w0 v l) (k:Nat) (hk:k≤l.length) :
  ∃ v',(∀ w,(Instr.sliceAt 36 v (some (.int .i64 (k:Int))) none none).run Tryz.prog w=.ok v' w)∧(∀ w,Rg.Ints w v l→Rg.Ints w v' (l.drop k))∧∃ a c,v'=.slice a (l.length - k) c:=by
 obtain ⟨a,cap,rfl,h2,h3,h4,h5⟩:=h.shape
 cases a with
 | none =>
  have hl:l.length=0:=by
   rcases Nat.eq_zero_or_pos l.length with h0 | h0
   ·exact h0
   ·obtain ⟨b,o,e,_⟩:=h5 h0; cases e
  have hk0:k=0:=by omega
  subst hk0;refine ⟨.slice none l.length cap,fun w=>?_,fun w hw=>by simpa using hw,none,cap,by simp⟩;obtain ⟨i0,hi,hz0,hz1,hz2⟩:=info_parts intsInfo;simp [Instr.sliceAt,Instr.slice,run_underlying Tryz.underlying36,Instr.sliceBounds,Instr.sliceBound,asIntOf,sizeOf,typeInfo,hi,Addr.add,hl]
 | some ad =>
  refine ⟨.slice (some (if cap=k then ad else ad.add k)) (l.length - k) (cap - k),fun w=>?_,fun w hw=>?_,_,_,rfl⟩
  ·obtain ⟨i0,hi,hz0,hz1,hz2⟩:=info_parts intsInfo
   simp [Instr.sliceAt,Instr.slice,run_underlying Tryz.underlying36,Instr.sliceBounds,Instr.sliceBound,asIntOf,sizeOf,typeInfo,hi,hz1,Addr.add];rw [if_pos (by omega)]
   by_cases e:cap=k
   ·simp [e]
   ·simp [e]
    try rw [if_neg (by omega)]
  ·obtain ⟨a',cap',e,g2,g3,g4,g5⟩:=hw.shape
   simp at e;obtain ⟨rfl,rfl⟩:=e
   have hlen:(l.drop k).length=l.length - k:=by rw [List.length_drop]
   have k1:l.length - k≤cap - k:=by omega
   have k2:cap - k≤maxLen:=by omega
   have k3:l.length - k≤Rg.big:=by unfold Rg.big; omega
   refine ⟨some (if cap=k then ad else ad.add k),cap - k,by rw [List.length_map,hlen],by rw [List.length_map,hlen]; exact k1,k2,by rw [List.length_map,hlen]; exact k3,fun h0=>?_⟩;rw [List.length_map,hlen] at h0;obtain ⟨b,o,e1,e2,e3⟩:=g5 (by clear h5 g5; omega);clear h5 g5
   obtain rfl:ad=⟨b,o,none⟩:=by simpa using e1
   rw [if_neg (by omega)];refine ⟨b,o+k,by rw [add_none rfl],e2,fun i hi=>?_⟩;rw [List.length_map,hlen] at hi;rw [Nat.add_assoc,e3 (k+i) (by omega)];simp [List.getElem_drop]
theorem exec_sliceHi {o:Oper} {a:Act} {w:World} {v r:Value} {k:Nat} (x y:Operand) (ho:o.op=.slice 36 x none (some y) none) (hx:a.eval x=v) (hy:a.eval y=.int .i64 (k:Int)) (hr:(Instr.sliceAt 36 v none (some (.int .i64 (k:Int))) none).run Tryz.prog w=.ok r w) :
  (execOp a.eval o).run Tryz.prog w=.ok (.value r) w:=by
 unfold execOp;simp only [ho,hx,hy,Sem.run_bind,Sem.run_pure,Option.map]
 first | (rw [hr]; rfl) | (erw [hr]; rfl) | simp [hr]
theorem exec_sliceLo {o:Oper} {a:Act} {w:World} {v r:Value} {k:Nat} (x y:Operand) (ho:o.op=.slice 36 x (some y) none none) (hx:a.eval x=v) (hy:a.eval y=.int .i64 (k:Int)) (hr:(Instr.sliceAt 36 v (some (.int .i64 (k:Int))) none none).run Tryz.prog w=.ok r w) :
  (execOp a.eval o).run Tryz.prog w=.ok (.value r) w:=by
 unfold execOp;simp only [ho,hx,hy,Sem.run_bind,Sem.run_pure,Option.map]
 first | (rw [hr]; rfl) | (erw [hr]; rfl) | simp [hr]
def Own0 (B:Nat) (u:Value) (w:World):Prop:=w.ownsRow B 3 1 u 0 []∧∃ p,u=.slice (some ⟨p,0,none⟩) 0 0∧p<w.heap.size∧w.cell? ⟨p,0,none⟩=none
theorem Own0.below {B:Nat} {u:Value} {w w':World} (h:Own0 B u w) (hb:Below w.heap.size w w'):Own0 B u w':=by
 obtain ⟨h1,p,e,h2,h3⟩:=h;exact ⟨Rg.row_below h1 hb,p,e,Nat.lt_of_lt_of_le h2 hb.size,(hb.cell (p:=⟨p,0,none⟩) h2).trans h3⟩
theorem Own0.new {B:Nat} (w:World) (hB:B≤w.heap.size):Own0 B (.slice (some ⟨w.heap.size,0,none⟩) 0 0) (w.alloc (.cells #[] 3)):=by
 refine ⟨⟨rfl,.inr ⟨w.heap.size,0,#[],rfl,hB,by show (w.heap.push _)[w.heap.size]?=_; simp,Nat.le_refl _,Nat.zero_le _,rfl,rfl⟩⟩,w.heap.size,rfl,by simp,by rw [Rg.cellNew]; rfl⟩
theorem Own0.ne {B B':Nat} {u v:Value} {x:Value} {w:World} (h:Own0 B u w) (h':Rg.BlkF B' [x] v w):∀ p,v=.slice (some ⟨p,0,none⟩) 1 1→u.ownBlock≠some p:=by
 obtain ⟨_,p,rfl,_,h3⟩:=h;obtain ⟨q,rfl,_,_,h4⟩:=h';intro p' e' e;simp at e';subst e';simp [Value.ownBlock] at e;subst e;have:=h4 0 (by simp);rw [h3] at this; cases this
theorem BlkF.off {B:Nat} {x v:Value} {w w':World} {k:Option Nat} (h:Rg.BlkF B [x] v w) (hg:w.grownBy w' k) (hk:∀ p,v=.slice (some ⟨p,0,none⟩) 1 1→k≠some p):Rg.BlkF B [x] v w':=by
 obtain ⟨p,e,h0,h1,h2⟩:=h
 exact ⟨p,e,h0,Nat.lt_of_lt_of_le h1 hg.size,fun j hj=>by
  rw [← h2 j hj]
  exact World.cell?_of_block (a:=⟨p,j,none⟩) (hg.block p h1 (fun e'=>hk p e e'.symm))⟩
theorem ints_cells {l:List Int}:∀ u∈l.map (Value.int .i64),u.oneCell'=true:=fun u hu=>by
 obtain ⟨x,_,rfl⟩:=List.mem_map.1 hu; rfl
theorem ascending_any (v:Value) (l:List Int) (w:World) (h:Rg.Ints w v l) (hl:l.length≤100000) :
  Calls Tryz.prog 256 #[v] w fun e w'=>∃ v',e=.returned v'∧Rg.Ints w' v' (asc l)∧Rg.Fresh w.heap.size v'∧Below w.heap.size w w':=by
 obtain ⟨la,lc,rfl,_,_,_,hlr⟩:=h.shape;have HL:=ι hlr;have HI:=ι h;clear h hlr
 have hlN:(l.length:Int)≤100000:=by omega
 go_enter Tryz.func256,Tryz.ntmps256
 go_wp2
 go_loopw [3,4] (fun ov i wr=>∃ k:Nat,k≤l.length∧i=.int .i64 k∧Hid (Rg.Ints wr ov (asc (l.take k)))∧Hid (Rg.Fresh w.heap.size ov)∧Hid (Below w.heap.size w wr)) (fun _ i _=>l.length - (intOf i).toNat)
 case atStart=>exact ⟨0,by omega,rfl,ι (Rg.Ints.nil _ _ _ (Nat.zero_le _)),ι (fun a n c e=>by simp at e),ι (Below.refl _ _)⟩
 case round =>
  obtain ⟨i,hi,rfl,hs,hfr,hbel⟩:=hrel
  by_cases hlt:i<l.length
  ·obtain ⟨lb,lo,rfl,hlb,hlcell⟩:=HL.out (by omega)
   have C1:=ι (show Cel wr lb (lo+i) (.int .i64 l[i]) from ⟨(hbel.out.cell (p:=⟨lb,lo+i,none⟩) hlb).trans (hlcell i hlt),Nat.lt_of_lt_of_le hlb hbel.out.size⟩);obtain ⟨x,hx⟩:∃ x,Hid (x=l[i]):=⟨_,ι rfl⟩;rw [← hx.out] at C1;have HSC:=ι (asc_succ l i hlt);rw [← hx.out] at HSC;obtain ⟨O,hO⟩:∃ O,Hid (O=asc (l.take i)):=⟨_,ι rfl⟩
   have hOl:O.length=i:=by rw [hO.out,asc_length,List.length_take]; omega
   rw [← hO.out] at hs HSC;clear hlb hlcell;obtain ⟨oa,oc,rfl,_,_,_,hor⟩:=hs.out.shape;have HOR:=ι hor;have HOL:=ι hOl
   have hiN:(i:Int)<(l.length:Int):=by omega
   have hON:(O.length:Int)≤100000:=by omega
   clear hor hOl;have HIs:=ι hs.out;go_wp2
   go_loopw [5] (fun kv wr2=>∃ k:Nat,k≤O.length∧kv=.int .i64 k∧Hid (∀ j (h:j<O.length),j<k→O[j]<x)∧Hid (Rg.Ints wr2 (.slice oa O.length oc) O)∧Hid (Cel wr2 lb (lo+i) (.int .i64 x))∧Hid (Below w.heap.size w wr2)) (fun kv _=>O.length - (intOf kv).toNat)
   case atStart=>exact ⟨0,by omega,rfl,ι (fun j h h0=>by omega),HIs,C1,hbel⟩
   case round =>
    clear hs hbel HIs C1 HOR;obtain ⟨k,hk,rfl,hlo,HO,C1,K⟩:=hrel
    by_cases hko:k<O.length
    ·have hcell:=HO.out.shape
     obtain ⟨oa',oc',eo,_,_,_,hor⟩:=hcell;obtain ⟨ob,oo,e1,hob,hoc⟩:=hor (by omega);subst e1
     cases eo
     obtain ⟨y,hy⟩:∃ y,Hid (y=O[k]):=⟨_,ι rfl⟩;have C2:=ι (show Cel wr ob (oo+k) (.int .i64 y) from ⟨by rw [hy.out]; exact hoc k hko,hob⟩);clear hoc hob hor
     by_cases hyx:y<x
     ·
      go_upto_region 6 with (fail);have hV0:Below wr.heap.size wr wr.drew:=(Below.refl _ _).drew;replace HO:=ι (HO.out.below hV0);replace C1:=ι (C1.out.below hV0);replace C2:=ι (C2.out.below hV0);replace K:=ι (Rg.acc K.out hV0);clear hV0;refine Rg.Any.begin (S:=Rg.Both 14 (fun _=>True) (fun W=>Below wr.drew.heap.size wr.drew W)) mix ?_;generalize wr.drew=w1 at *;have hS:∀ (l:Array Bool) W,Below w1.heap.size w1 W→Rg.Both 14 (fun _=>True) (fun W=>Below w1.heap.size w1 W) l W:=fun l W h=>⟨.inr trivial,h⟩;have hI:Below w1.heap.size w1 w1:=Below.refl _ _;refine Rg.tm 0 14 (.int .i64 ((k:Nat):Int)) 12 (hS _ _ hI) ?_;go_frame;refine Rg.tm 1 14 (.slice (some ⟨ob,oo,none⟩) O.length oc) 13 (hS _ _ hI) ?_;go_frame;refine Rg.tg 2 14 (.int .i64 ((O.length:Nat):Int)) 14 rfl rfl (.inl ⟨rfl,fun w _=>exec_len _ _ _ rfl Tryz.underlying36 _ _ _ rfl⟩) (hS _ _ hI) ?_;go_frame
      refine Rg.tg 3 14 (.bool true) 15 rfl rfl (.inl ⟨rfl,fun w _=>exec_bin (R:=.bool true) .lss _ _ _ rfl rfl rfl (b_lss _ (decide_eq_true (by omega)))⟩) (hS _ _ hI) ?_;go_frame;refine Rg.tm 4 14 (.bool true) 16 (hS _ _ hI) ?_;go_frame;refine Rg.tm 5 14 (.slice (some ⟨ob,oo,none⟩) O.length oc) 17 (hS _ _ hI) ?_;go_frame;refine Rg.tm 6 14 (.int .i64 ((k:Nat):Int)) 18 (hS _ _ hI) ?_;go_frame;refine Rg.tg 7 14 (.pointer (some ⟨ob,oo+k,none⟩)) 19 rfl rfl (Rg.yields_index slInts _ _ rfl rfl ob (oo) (O.length) oc (k) rfl rfl hko) (hS _ _ hI) ?_;go_frame;refine Rg.tg 8 14 (.int .i64 y) 20 rfl rfl (Rg.yields_cell _ _ rfl rfl ⟨ob,oo+k,none⟩ rfl (fun W hW=>run_loadInt ((Below.cell (p:=⟨ob,oo+k,none⟩) hW C2.out.2).trans C2.out.1))) (hS _ _ hI) ?_;go_frame;refine Rg.tm 9 14 (.slice (some ⟨lb,lo,none⟩) l.length lc) 21 (hS _ _ hI) ?_;go_frame;refine Rg.tm 10 14 (.int .i64 ((i:Nat):Int)) 22 (hS _ _ hI) ?_;go_frame
      refine Rg.tg 11 14 (.pointer (some ⟨lb,lo+i,none⟩)) 23 rfl rfl (Rg.yields_index slInts _ _ rfl rfl lb (lo) (l.length) lc (i) rfl rfl hlt) (hS _ _ hI) ?_;go_frame;refine Rg.tg 12 14 (.int .i64 x) 24 rfl rfl (Rg.yields_cell _ _ rfl rfl ⟨lb,lo+i,none⟩ rfl (fun W hW=>run_loadInt ((Below.cell (p:=⟨lb,lo+i,none⟩) hW C1.out.2).trans C1.out.1))) (hS _ _ hI) ?_;go_frame;refine Rg.tg 13 14 (.bool true) 25 rfl rfl (.inl ⟨rfl,fun w _=>exec_bin (R:=.bool true) .lss _ _ _ rfl rfl rfl (b_lss _ (decide_eq_true (by omega)))⟩) (hS _ _ hI) ?_;go_frame;refine Rg.Any.one (i:=14) (by kernel_rfl) (Rg.Any.run (some 26) rfl rfl rfl (exec_pickT (v:=.bool true) _ _ _ rfl rfl rfl) (hS _ _ hI) ?_);go_frame;refine Rg.Any.done (by kernel_rfl) ?_ _;clear hS hI;go_wp2
      go_roundw
      case rel=>exact ⟨k+1,by omega,by go_num,ι (fun j h hj=>by by_cases e:j=k; subst e; rw [← hy.out]; exact hyx; exact hlo.out j h (by omega)),HO,C1,K⟩
      case measure=>simp [intOf]; omega
     ·have HGE:=ι (show ∀ h:k<O.length,¬ O[k]<x from fun h=>by rw [← hy.out]; exact hyx)
      go_upto_region 6 with (fail);have hV0:Below wr.heap.size wr wr.drew:=(Below.refl _ _).drew;replace HO:=ι (HO.out.below hV0);replace C1:=ι (C1.out.below hV0);replace C2:=ι (C2.out.below hV0);replace K:=ι (Rg.acc K.out hV0);clear hV0;refine Rg.Any.begin (S:=Rg.Both 14 (fun _=>True) (fun W=>Below wr.drew.heap.size wr.drew W)) mix ?_;generalize wr.drew=w2 at *;have hS:∀ (l:Array Bool) W,Below w2.heap.size w2 W→Rg.Both 14 (fun _=>True) (fun W=>Below w2.heap.size w2 W) l W:=fun l W h=>⟨.inr trivial,h⟩;have hI:Below w2.heap.size w2 w2:=Below.refl _ _;refine Rg.tm 0 14 (.int .i64 ((k:Nat):Int)) 12 (hS _ _ hI) ?_;go_frame;refine Rg.tm 1 14 (.slice (some ⟨ob,oo,none⟩) O.length oc) 13 (hS _ _ hI) ?_;go_frame;refine Rg.tg 2 14 (.int .i64 ((O.length:Nat):Int)) 14 rfl rfl (.inl ⟨rfl,fun w _=>exec_len _ _ _ rfl Tryz.underlying36 _ _ _ rfl⟩) (hS _ _ hI) ?_;go_frame
      refine Rg.tg 3 14 (.bool true) 15 rfl rfl (.inl ⟨rfl,fun w _=>exec_bin (R:=.bool true) .lss _ _ _ rfl rfl rfl (b_lss _ (decide_eq_true (by omega)))⟩) (hS _ _ hI) ?_;go_frame;refine Rg.tm 4 14 (.bool true) 16 (hS _ _ hI) ?_;go_frame;refine Rg.tm 5 14 (.slice (some ⟨ob,oo,none⟩) O.length oc) 17 (hS _ _ hI) ?_;go_frame;refine Rg.tm 6 14 (.int .i64 ((k:Nat):Int)) 18 (hS _ _ hI) ?_;go_frame;refine Rg.tg 7 14 (.pointer (some ⟨ob,oo+k,none⟩)) 19 rfl rfl (Rg.yields_index slInts _ _ rfl rfl ob (oo) (O.length) oc (k) rfl rfl hko) (hS _ _ hI) ?_;go_frame;refine Rg.tg 8 14 (.int .i64 y) 20 rfl rfl (Rg.yields_cell _ _ rfl rfl ⟨ob,oo+k,none⟩ rfl (fun W hW=>run_loadInt ((Below.cell (p:=⟨ob,oo+k,none⟩) hW C2.out.2).trans C2.out.1))) (hS _ _ hI) ?_;go_frame;refine Rg.tm 9 14 (.slice (some ⟨lb,lo,none⟩) l.length lc) 21 (hS _ _ hI) ?_;go_frame;refine Rg.tm 10 14 (.int .i64 ((i:Nat):Int)) 22 (hS _ _ hI) ?_;go_frame
      refine Rg.tg 11 14 (.pointer (some ⟨lb,lo+i,none⟩)) 23 rfl rfl (Rg.yields_index slInts _ _ rfl rfl lb (lo) (l.length) lc (i) rfl rfl hlt) (hS _ _ hI) ?_;go_frame;refine Rg.tg 12 14 (.int .i64 x) 24 rfl rfl (Rg.yields_cell _ _ rfl rfl ⟨lb,lo+i,none⟩ rfl (fun W hW=>run_loadInt ((Below.cell (p:=⟨lb,lo+i,none⟩) hW C1.out.2).trans C1.out.1))) (hS _ _ hI) ?_;go_frame;refine Rg.tg 13 14 (.bool false) 25 rfl rfl (.inl ⟨rfl,fun w _=>exec_bin (R:=.bool false) .lss _ _ _ rfl rfl rfl (b_lss _ (decide_eq_false (by omega)))⟩) (hS _ _ hI) ?_;go_frame;refine Rg.Any.one (i:=14) (by kernel_rfl) (Rg.Any.run (some 26) rfl rfl rfl (exec_pickT (v:=.bool false) _ _ _ rfl rfl rfl) (hS _ _ hI) ?_);go_frame;refine Rg.Any.done (by kernel_rfl) ?_ _;clear hS hI;obtain ⟨hv,hh1,hh2,ha,hc,rfl⟩:=slice_hi HO.out k (by omega);obtain ⟨tv,ht1,ht2,ta,tc,rfl⟩:=slice_lo HO.out k (by omega)
      have HA:=ι hh2;have HT:=ι ht2;have HR1:=ι hh1;have HR2:=ι ht1
      have hkl:(O.take k).length=k:=by rw [List.length_take]; omega
      have HKL:=ι hkl;clear hh1 hh2 ht1 ht2 hkl;go_upto_region 8 with (fail);have hV0:Below w2.heap.size w2 w2.drew:=(Below.refl _ _).drew;replace HO:=ι (HO.out.below hV0);replace C1:=ι (C1.out.below hV0);replace C2:=ι (C2.out.below hV0);replace K:=ι (Rg.acc K.out hV0);clear hV0;refine Rg.Any.begin (S:=Rg.Both 15 (fun _=>True) (fun W=>Below w2.drew.heap.size w2.drew W)) mix ?_;generalize w2.drew=w3 at *;have hS:∀ (l:Array Bool) W,Below w3.heap.size w3 W→Rg.Both 15 (fun _=>True) (fun W=>Below w3.heap.size w3 W) l W:=fun l W h=>⟨.inr trivial,h⟩;have hI:Below w3.heap.size w3 w3:=Below.refl _ _;have hVs:=K.out.size;refine Rg.tm 1 15 (.slice (some ⟨ob,oo,none⟩) O.length oc) 30 (hS _ _ hI) ?_;go_frame;refine Rg.tm 2 15 (.int .i64 ((k:Nat):Int)) 31 (hS _ _ hI) ?_;go_frame;refine Rg.tg 3 15 (.slice ha k hc) 32 rfl rfl (.inl ⟨rfl,fun w _=>exec_sliceHi _ _ rfl rfl rfl (HR1.out _)⟩) (hS _ _ hI) ?_;go_frame
      refine Rg.tm 5 15 (.slice (some ⟨lb,lo,none⟩) l.length lc) 34 (hS _ _ hI) ?_;go_frame;refine Rg.tm 6 15 (.int .i64 ((i:Nat):Int)) 35 (hS _ _ hI) ?_;go_frame;refine Rg.tg 7 15 (.pointer (some ⟨lb,lo+i,none⟩)) 36 rfl rfl (Rg.yields_index slInts _ _ rfl rfl lb (lo) (l.length) lc (i) rfl rfl hlt) (hS _ _ hI) ?_;go_frame;refine Rg.tg 8 15 (.int .i64 x) 37 rfl rfl (Rg.yields_cell _ _ rfl rfl ⟨lb,lo+i,none⟩ rfl (fun W hW=>run_loadInt ((Below.cell (p:=⟨lb,lo+i,none⟩) hW C1.out.2).trans C1.out.1))) (hS _ _ hI) ?_;go_frame;refine Rg.tm 11 15 (.slice (some ⟨ob,oo,none⟩) O.length oc) 40 (hS _ _ hI) ?_;go_frame;refine Rg.tm 12 15 (.int .i64 ((k:Nat):Int)) 41 (hS _ _ hI) ?_;go_frame;refine Rg.tg 13 15 (.slice ta (O.length - k) tc) 42 rfl rfl (.inl ⟨rfl,fun w _=>exec_sliceLo _ _ rfl rfl rfl (HR2.out _)⟩) (hS _ _ hI) ?_;go_frame
      refine Rg.Any.c2f1 (i:=0) (k:=4) (j:=9) (di:=29) (dk:=33) (dj:=38) (I:=fun W=>Below w3.heap.size w3 W∧w3.heap.size≤W.heap.size) (R0:=fun _=>True) (Ri:=fun u W=>Own0 w3.heap.size u W) (Rk:=fun x W=>W.ownsRow w3.heap.size 3 1 x k ((O.take k).map (Value.int .i64))) (Rj:=fun v W=>Rg.BlkF w3.heap.size [.int .i64 x] v W) (fun l W h=>hS l W h.1)
       (by decide) (by decide) (by decide) (by decide) (by kernel_rfl) (by kernel_rfl) (by kernel_rfl) (by kernel_rfl) (by kernel_rfl)
       (fun _ _ _ _=>trivial) (fun _ _ _ hb h=>h.below hb) (fun _ _ _ hb h=>Rg.row_below h hb) (fun _ _ _ hb h=>h.below hb) ?_ ?_ ?_ ⟨hI,Nat.le_refl _⟩ (trivial) ?_
      ·intro b hb W hW
       exact Rg.doesRun rfl rfl (by rcases hb with rfl | ⟨u,rfl⟩ <;> rfl) (Rg.exec_build0 slInts rfl W) ⟨⟨Rg.acc hW.1 ((Below.refl _ _).alloc (Nat.le_refl _) _),by simp; have:=hW.2; omega⟩,Own0.new W hW.2,(Below.refl _ _).alloc (Nat.le_refl _) _⟩
      ·intro b hb W hW
       exact Rg.doesRun rfl rfl (by rcases hb with rfl | ⟨u,rfl⟩ | ⟨u,v,rfl⟩ <;> rfl) (Rg.exec_buildSlice _ _ _ rfl (.int .i64 x) (by rcases hb with rfl | ⟨u,rfl⟩ | ⟨u,v,rfl⟩ <;> rfl) (run_build1i W x)) ⟨⟨Rg.acc hW.1 ((Below.refl _ _).alloc (Nat.le_refl _) _),by simp; have:=hW.2; omega⟩,Rg.BlkF.new W [.int .i64 x] 3 hW.2,(Below.refl _ _).alloc (Nat.le_refl _) _⟩
      ·intro u b hb W hW h0 hu
       obtain ⟨v2,X,r1,r2,r3⟩:=Rg.appL_run (P:=Tryz.prog) slInts 36 hu.1 hW.2 (HA.out W (Rg.Ints.below HO.out hW.1)) ints_cells (by rw [List.length_map,HKL.out]; omega);rw [List.length_map,HKL.out,Nat.zero_add,List.nil_append] at r2
       exact Rg.doesRun rfl rfl (by rcases hb with rfl | ⟨v,rfl⟩ <;> rfl) (Rg.exec_append _ _ _ rfl (by rcases hb with rfl | ⟨v,rfl⟩ <;> rfl) (by rcases hb with rfl | ⟨v,rfl⟩ <;> rfl) r1) ⟨⟨hW.1.grown r3 hW.2 (fun j hj=>(hu.1.lt j hj).1),Nat.le_trans hW.2 r3.size⟩,r2,fun v hv=>BlkF.off hv r3 (hu.ne hv)⟩
      rintro w4 fu fx fv hb hk hj;have hI2_f:=hb.1;have hVsz:=hb.2;clear hb hI;go_frame;have FK:=ι hk;have FJ:=ι hj;obtain ⟨v10,X10,r1,r2,r3⟩:=Rg.appL_run (P:=Tryz.prog) slInts 36 FK.out hI2_f.size (Rg.BlkF.vals FJ.out (by simp)) (by intro u hu; simp at hu; subst hu; rfl) (by simp; omega);have hI3_g:=hI2_f.grown r3 hI2_f.size (fun j hj=>((FK.out).lt j hj).1);refine Rg.Any.one (i:=10) (by kernel_rfl) (Rg.Any.run (some 39) rfl rfl rfl (Rg.exec_append _ _ _ rfl rfl rfl r1) (hS _ _ hI3_g) ?_);go_frame;clear hI2_f;clear FK;clear FJ;have FX:=ι r2;obtain ⟨v14,X14,r1,r2,r4⟩:=Rg.appL_run (P:=Tryz.prog) slInts 36 FX.out hI3_g.size (HT.out _ (Rg.Ints.below HO.out hI3_g)) ints_cells (by simp; omega);have hI4_g:=hI3_g.grown r4 hI3_g.size (fun j hj=>((FX.out).lt j hj).1);refine Rg.Any.one (i:=14) (by kernel_rfl) (Rg.Any.run (some 43) rfl rfl rfl (Rg.exec_append _ _ _ rfl rfl rfl r1) (hS _ _ hI4_g) ?_)
      go_frame;clear hI3_g;clear FX;have FZ:=ι r2;refine Rg.Any.one (i:=15) (by kernel_rfl) (Rg.Any.run (some 3) rfl rfl rfl (Rg.xa (v14) _ rfl rfl) (hS _ _ hI4_g) ?_);go_frame;refine Rg.Any.done (by kernel_rfl) ?_ _;replace HO:=ι (HO.out.below hI4_g);replace C1:=ι (C1.out.below hI4_g);replace C2:=ι (C2.out.below hI4_g);replace K:=ι (Rg.acc K.out hI4_g);clear hS hI4_g
      have hz:Rg.Ints X14 v14 (asc (l.take (i+1))):=by
       have hc:insA O x=O.take k++x :: O.drop k:=insA_at O x k (by omega) (fun j h hj=>hlo.out j h hj) HGE.out;rw [HSC.out,hc];refine Rg.Ints.of_row (n:=k+1+(O.length - k)) (base:=w3.heap.size) (e:=3) ?_ (by omega);have h5:=FZ.out;simp only [List.length_singleton,List.length_map,List.length_drop] at h5
       simpa [List.append_assoc] using h5
      have HZ:=ι hz;have HZF:=ι ((Rg.Fresh.of_row FZ.out).mono hVs);clear hz FZ;go_wp2
      go_roundw
      case rel=>exact ⟨i+1,by omega,by go_num,HZ,HZF,K⟩
      case measure=>simp [intOf]; omega
    ·have HGE:=ι (show ∀ h:k<O.length,¬ O[k]<x from fun h=>absurd h hko)
     go_upto_region 6 with (fail);have hV0:Below wr.heap.size wr wr.drew:=(Below.refl _ _).drew;replace HO:=ι (HO.out.below hV0);replace C1:=ι (C1.out.below hV0);replace K:=ι (Rg.acc K.out hV0);clear hV0;refine Rg.Any.begin (S:=Rg.Both 14 (fun _=>True) (fun W=>Below wr.drew.heap.size wr.drew W)) mix ?_;generalize wr.drew=w5 at *;have hS:∀ (l:Array Bool) W,Below w5.heap.size w5 W→Rg.Both 14 (fun _=>True) (fun W=>Below w5.heap.size w5 W) l W:=fun l W h=>⟨.inr trivial,h⟩;have hI:Below w5.heap.size w5 w5:=Below.refl _ _;refine Rg.tm 0 14 (.int .i64 ((k:Nat):Int)) 12 (hS _ _ hI) ?_;go_frame;refine Rg.tm 1 14 (.slice oa O.length oc) 13 (hS _ _ hI) ?_;go_frame;refine Rg.tg 2 14 (.int .i64 ((O.length:Nat):Int)) 14 rfl rfl (.inl ⟨rfl,fun w _=>exec_len _ _ _ rfl Tryz.underlying36 _ _ _ rfl⟩) (hS _ _ hI) ?_;go_frame;refine Rg.tg 3 14 (.bool false) 15 rfl rfl (.inl ⟨rfl,fun w _=>exec_bin (R:=.bool false) .lss _ _ _ rfl rfl rfl (b_lss _ (decide_eq_false (by omega)))⟩) (hS _ _ hI) ?_;go_frame
     refine Rg.tm 4 14 (.bool false) 16 (hS _ _ hI) ?_;go_frame;refine Rg.tg 5 14 (undef) 17 rfl rfl (.inr ⟨rfl,rfl⟩) (hS _ _ hI) ?_;go_frame;refine Rg.tg 6 14 (undef) 18 rfl rfl (.inr ⟨rfl,rfl⟩) (hS _ _ hI) ?_;go_frame;refine Rg.tg 7 14 (undef) 19 rfl rfl (.inr ⟨rfl,rfl⟩) (hS _ _ hI) ?_;go_frame;refine Rg.tg 8 14 (undef) 20 rfl rfl (.inr ⟨rfl,rfl⟩) (hS _ _ hI) ?_;go_frame;refine Rg.tg 9 14 (undef) 21 rfl rfl (.inr ⟨rfl,rfl⟩) (hS _ _ hI) ?_;go_frame;refine Rg.tg 10 14 (undef) 22 rfl rfl (.inr ⟨rfl,rfl⟩) (hS _ _ hI) ?_;go_frame;refine Rg.tg 11 14 (undef) 23 rfl rfl (.inr ⟨rfl,rfl⟩) (hS _ _ hI) ?_;go_frame;refine Rg.tg 12 14 (undef) 24 rfl rfl (.inr ⟨rfl,rfl⟩) (hS _ _ hI) ?_;go_frame;refine Rg.tg 13 14 (undef) 25 rfl rfl (.inr ⟨rfl,rfl⟩) (hS _ _ hI) ?_;go_frame;refine Rg.Any.one (i:=14) (by kernel_rfl) (Rg.Any.run (some 26) rfl rfl rfl (exec_pickF (v:=.bool false) _ _ _ rfl rfl rfl) (hS _ _ hI) ?_)
     go_frame;refine Rg.Any.done (by kernel_rfl) ?_ _;clear hS hI;obtain ⟨hv,hh1,hh2,ha,hc,rfl⟩:=slice_hi HO.out k (by omega);obtain ⟨tv,ht1,ht2,ta,tc,rfl⟩:=slice_lo HO.out k (by omega);have HA:=ι hh2;have HT:=ι ht2;have HR1:=ι hh1;have HR2:=ι ht1
     have hkl:(O.take k).length=k:=by rw [List.length_take]; omega
     have HKL:=ι hkl;clear hh1 hh2 ht1 ht2 hkl;go_upto_region 8 with (fail);have hV0:Below w5.heap.size w5 w5.drew:=(Below.refl _ _).drew;replace HO:=ι (HO.out.below hV0);replace C1:=ι (C1.out.below hV0);replace K:=ι (Rg.acc K.out hV0);clear hV0;refine Rg.Any.begin (S:=Rg.Both 15 (fun _=>True) (fun W=>Below w5.drew.heap.size w5.drew W)) mix ?_;generalize w5.drew=w6 at *;have hS:∀ (l:Array Bool) W,Below w6.heap.size w6 W→Rg.Both 15 (fun _=>True) (fun W=>Below w6.heap.size w6 W) l W:=fun l W h=>⟨.inr trivial,h⟩;have hI:Below w6.heap.size w6 w6:=Below.refl _ _;have hVs:=K.out.size;refine Rg.tm 1 15 (.slice oa O.length oc) 30 (hS _ _ hI) ?_;go_frame;refine Rg.tm 2 15 (.int .i64 ((k:Nat):Int)) 31 (hS _ _ hI) ?_;go_frame;refine Rg.tg 3 15 (.slice ha k hc) 32 rfl rfl (.inl ⟨rfl,fun w _=>exec_sliceHi _ _ rfl rfl rfl (HR1.out _)⟩) (hS _ _ hI) ?_;go_frame
     refine Rg.tm 5 15 (.slice (some ⟨lb,lo,none⟩) l.length lc) 34 (hS _ _ hI) ?_;go_frame;refine Rg.tm 6 15 (.int .i64 ((i:Nat):Int)) 35 (hS _ _ hI) ?_;go_frame;refine Rg.tg 7 15 (.pointer (some ⟨lb,lo+i,none⟩)) 36 rfl rfl (Rg.yields_index slInts _ _ rfl rfl lb (lo) (l.length) lc (i) rfl rfl hlt) (hS _ _ hI) ?_;go_frame;refine Rg.tg 8 15 (.int .i64 x) 37 rfl rfl (Rg.yields_cell _ _ rfl rfl ⟨lb,lo+i,none⟩ rfl (fun W hW=>run_loadInt ((Below.cell (p:=⟨lb,lo+i,none⟩) hW C1.out.2).trans C1.out.1))) (hS _ _ hI) ?_;go_frame;refine Rg.tm 11 15 (.slice oa O.length oc) 40 (hS _ _ hI) ?_;go_frame;refine Rg.tm 12 15 (.int .i64 ((k:Nat):Int)) 41 (hS _ _ hI) ?_;go_frame;refine Rg.tg 13 15 (.slice ta (O.length - k) tc) 42 rfl rfl (.inl ⟨rfl,fun w _=>exec_sliceLo _ _ rfl rfl rfl (HR2.out _)⟩) (hS _ _ hI) ?_;go_frame
     refine Rg.Any.c2f1 (i:=0) (k:=4) (j:=9) (di:=29) (dk:=33) (dj:=38) (I:=fun W=>Below w6.heap.size w6 W∧w6.heap.size≤W.heap.size) (R0:=fun _=>True) (Ri:=fun u W=>Own0 w6.heap.size u W) (Rk:=fun x W=>W.ownsRow w6.heap.size 3 1 x k ((O.take k).map (Value.int .i64))) (Rj:=fun v W=>Rg.BlkF w6.heap.size [.int .i64 x] v W) (fun l W h=>hS l W h.1)
      (by decide) (by decide) (by decide) (by decide) (by kernel_rfl) (by kernel_rfl) (by kernel_rfl) (by kernel_rfl) (by kernel_rfl)
      (fun _ _ _ _=>trivial) (fun _ _ _ hb h=>h.below hb) (fun _ _ _ hb h=>Rg.row_below h hb) (fun _ _ _ hb h=>h.below hb) ?_ ?_ ?_ ⟨hI,Nat.le_refl _⟩ (trivial) ?_
     ·intro b hb W hW
      exact Rg.doesRun rfl rfl (by rcases hb with rfl | ⟨u,rfl⟩ <;> rfl) (Rg.exec_build0 slInts rfl W) ⟨⟨Rg.acc hW.1 ((Below.refl _ _).alloc (Nat.le_refl _) _),by simp; have:=hW.2; omega⟩,Own0.new W hW.2,(Below.refl _ _).alloc (Nat.le_refl _) _⟩
     ·intro b hb W hW
      exact Rg.doesRun rfl rfl (by rcases hb with rfl | ⟨u,rfl⟩ | ⟨u,v,rfl⟩ <;> rfl) (Rg.exec_buildSlice _ _ _ rfl (.int .i64 x) (by rcases hb with rfl | ⟨u,rfl⟩ | ⟨u,v,rfl⟩ <;> rfl) (run_build1i W x)) ⟨⟨Rg.acc hW.1 ((Below.refl _ _).alloc (Nat.le_refl _) _),by simp; have:=hW.2; omega⟩,Rg.BlkF.new W [.int .i64 x] 3 hW.2,(Below.refl _ _).alloc (Nat.le_refl _) _⟩
     ·intro u b hb W hW h0 hu
      obtain ⟨v2,X,r1,r2,r3⟩:=Rg.appL_run (P:=Tryz.prog) slInts 36 hu.1 hW.2 (HA.out W (Rg.Ints.below HO.out hW.1)) ints_cells (by rw [List.length_map,HKL.out]; omega);rw [List.length_map,HKL.out,Nat.zero_add,List.nil_append] at r2
      exact Rg.doesRun rfl rfl (by rcases hb with rfl | ⟨v,rfl⟩ <;> rfl) (Rg.exec_append _ _ _ rfl (by rcases hb with rfl | ⟨v,rfl⟩ <;> rfl) (by rcases hb with rfl | ⟨v,rfl⟩ <;> rfl) r1) ⟨⟨hW.1.grown r3 hW.2 (fun j hj=>(hu.1.lt j hj).1),Nat.le_trans hW.2 r3.size⟩,r2,fun v hv=>BlkF.off hv r3 (hu.ne hv)⟩
     rintro w7 fu fx fv hb hk hj;have hI5_f:=hb.1;have hVsz:=hb.2;clear hb hI;go_frame;have FK:=ι hk;have FJ:=ι hj;obtain ⟨v10,X10,r1,r2,r3⟩:=Rg.appL_run (P:=Tryz.prog) slInts 36 FK.out hI5_f.size (Rg.BlkF.vals FJ.out (by simp)) (by intro u hu; simp at hu; subst hu; rfl) (by simp; omega);have hI6_g:=hI5_f.grown r3 hI5_f.size (fun j hj=>((FK.out).lt j hj).1);refine Rg.Any.one (i:=10) (by kernel_rfl) (Rg.Any.run (some 39) rfl rfl rfl (Rg.exec_append _ _ _ rfl rfl rfl r1) (hS _ _ hI6_g) ?_);go_frame;clear hI5_f;clear FK;clear FJ;have FX:=ι r2;obtain ⟨v14,X14,r1,r2,r4⟩:=Rg.appL_run (P:=Tryz.prog) slInts 36 FX.out hI6_g.size (HT.out _ (Rg.Ints.below HO.out hI6_g)) ints_cells (by simp; omega);have hI7_g:=hI6_g.grown r4 hI6_g.size (fun j hj=>((FX.out).lt j hj).1);refine Rg.Any.one (i:=14) (by kernel_rfl) (Rg.Any.run (some 43) rfl rfl rfl (Rg.exec_append _ _ _ rfl rfl rfl r1) (hS _ _ hI7_g) ?_)
     go_frame;clear hI6_g;clear FX;have FZ:=ι r2;refine Rg.Any.one (i:=15) (by kernel_rfl) (Rg.Any.run (some 3) rfl rfl rfl (Rg.xa (v14) _ rfl rfl) (hS _ _ hI7_g) ?_);go_frame;refine Rg.Any.done (by kernel_rfl) ?_ _;replace HO:=ι (HO.out.below hI7_g);replace C1:=ι (C1.out.below hI7_g);replace K:=ι (Rg.acc K.out hI7_g);clear hS hI7_g
     have hz:Rg.Ints X14 v14 (asc (l.take (i+1))):=by
      have hc:insA O x=O.take k++x :: O.drop k:=insA_at O x k (by omega) (fun j h hj=>hlo.out j h hj) HGE.out;rw [HSC.out,hc];refine Rg.Ints.of_row (n:=k+1+(O.length - k)) (base:=w6.heap.size) (e:=3) ?_ (by omega);have h5:=FZ.out;simp only [List.length_singleton,List.length_map,List.length_drop] at h5
      simpa [List.append_assoc] using h5
     have HZ:=ι hz;have HZF:=ι ((Rg.Fresh.of_row FZ.out).mono hVs);clear hz FZ;go_wp2
     go_roundw
     case rel=>exact ⟨i+1,by omega,by go_num,HZ,HZF,K⟩
     case measure=>simp [intOf]; omega
  ·obtain rfl:i=l.length:=by omega
   have HZ:=ι (show Rg.Ints wr u3 (asc l) by have:=hs.out; rwa [List.take_length] at this);clear hs;go_wp2;go_ret;exact ⟨_,rfl,HZ.out,hfr.out,hbel.out⟩

theorem GA.fresh {w:World} {D:Nat} {a:Option Addr} {gs:List (List Nat)} {c:Nat} (h:Rg.NRows w (.slice a gs.length c) gs) :
  ∃ W,(storeVar 24 ⟨w.heap.size,0,none⟩ (.agg #[.int .i64 ((D:Nat):Int),.slice a gs.length c])).run Tryz.prog (w.alloc (.cells #[.int .i64 0,.slice none 0 0] 24))=.ok () W∧GA W w.heap.size D a gs c∧Below w.heap.size w W:=by
 have n0:(w.alloc (.cells #[.int .i64 0,.slice none 0 0] 24)).cell? ⟨w.heap.size,0,none⟩=some (.int .i64 0):=by rw [Rg.cellNew]; rfl
 have n1:(w.alloc (.cells #[.int .i64 0,.slice none 0 0] 24)).cell? ⟨w.heap.size,1,none⟩=some (.slice none 0 0):=by rw [Rg.cellNew]; rfl
 obtain ⟨p0,p1,p2⟩:=group_set (.int .i64 ((D:Nat):Int)) (.slice a gs.length c) n0 n1 ((Below.refl w.heap.size w).alloc (Nat.le_refl _) _) (Nat.le_refl _);exact ⟨_,run_storeG _ a _ c n0 n1 (frozenNewN _ _ _ 0 _) (frozenNewN _ _ _ 0 _),⟨p0,p1,Rg.Rows.below h p2,by simp⟩,p2⟩

theorem Vdcl0 (args:Array Value) (w:World):(callFunc 255 args).run Tryz.prog w=.ok (.enter 255 args) w:=by kernel_rfl
theorem Vdcl1 (args:Array Value) (w:World):(callFunc 256 args).run Tryz.prog w=.ok (.enter 256 args) w:=by kernel_rfl
theorem GA.enter {w:World} {gv:Value} (D:Nat) {gs:List (List Nat)} (h:Rg.NRows w gv gs):∃ a c,gv=.slice a gs.length c∧GA (w.alloc (.cells #[.int .i64 ((D:Nat):Int),.slice a gs.length c] 24)) w.heap.size D a gs c∧Below w.heap.size w (w.alloc (.cells #[.int .i64 ((D:Nat):Int),.slice a gs.length c] 24)):=by
 obtain ⟨a,c,rfl,_⟩:=h.shape;exact ⟨a,c,rfl,GA.new h,(Below.refl _ _).alloc (Nat.le_refl _) _⟩
def treeR (d:Int) (ll:List (List Int)) (p:Int):List Int × List Int × List Int :=
 if ptE d ll p=0 then (Ma.ofN (pts (tree (toNs ll) d.toNat p.toNat)),prs (tree (toNs ll) d.toNat p.toNat),gns (tree (toNs ll) d.toNat p.toNat)) else ([],[],[])
theorem treeR_ok {D P:Nat} {gs:List (List Nat)} (h:ptE (D:Int) (gs.map Ma.ofN) (P:Int)=0):treeR (D:Int) (gs.map Ma.ofN) (P:Int)=(Ma.ofN (pts (tree gs D P)),prs (tree gs D P),gns (tree gs D P)):=by
 unfold treeR;rw [if_pos h,toNs_ofN]; rfl
theorem refTree_any (gv:Value) (d:Int) (ll:List (List Int)) (p:Int) (w:World) (h:Rg.Rows w gv ll) :
  Calls Tryz.prog 255 #[.agg #[.int .i64 d,gv],.int .i64 p] w (TrPost (treeR d ll p) (ptE d ll p) w):=by
 by_cases hz:ptE d ll p=0
 ·obtain ⟨D,gs,P,rfl,rfl,rfl,hgg,hD1,hD2,hgl,hP⟩:=ptE_ok hz
  rw [treeR_ok hz,hz];exact refTree_in gv D gs P w h hgg hD2 hP hgl (fun W v hW=>by have:=refPoint_any v (D:Int) _ (P:Int) W hW; rwa [hz] at this)
 ·have hr:treeR d ll p=([],[],[]):=if_neg hz
  rw [hr];exact refTree_err gv d ll p w h hz
theorem tree_len64 {d:Int} {ll:List (List Int)} {p:Int} (h:ptE d ll p=0):(tree (toNs ll) d.toNat p.toNat).length≤64:=by
 obtain ⟨D,gs,P,rfl,rfl,rfl,hgg,hD1,hD2,hgl,hP⟩:=ptE_ok h;rw [toNs_ofN];exact Nat.le_trans (tree_ok hgg.cl hP).len hD2
theorem treeR_len (d:Int) (ll:List (List Int)) (p:Int):(treeR d ll p).1.length≤64:=by
 unfold treeR
 split
 ·rename_i h
  have:=tree_len64 h;simp only [Ma.len_ofN,len_pts]; exact this
 ·simp
theorem asc_treeR (d:Int) (ll:List (List Int)) (p:Int):(asc (treeR d ll p).1,ptE d ll p)=orbS d ll p:=by
 unfold treeR orbS
 split
 ·rename_i h; rw [h]
 ·rfl
theorem refOrbit_f (gv:Value) (d:Int) (ll:List (List Int)) (p:Int) (w:World) (h:Rg.Rows w gv ll) :
  Calls Tryz.prog 175 #[.agg #[.int .i64 d,gv],.int .i64 p] w fun e w'=>∃ v,e=.returned (.tuple #[v,.int .i64 (orbS d ll p).2])∧Rg.Ints w' v (orbS d ll p).1∧Rg.Fresh w.heap.size v∧Below w.heap.size w w':=by
 rw [← asc_treeR];have htl:=ι (treeR_len d ll p);obtain ⟨ga,gc,rfl,hga,hba⟩:=GI.enter (d) h;have K:=ι hba;have G0:=ι hga;clear h hga hba;have HTR:=ι fun W (hW:Rg.Rows W (.slice ga ll.length gc) ll)=>refTree_any (.slice ga ll.length gc) d ll p W hW;obtain ⟨e0,he0⟩:∃ e0,Hid (e0=ptE d ll p):=⟨_,ι rfl⟩;rw [← he0.out] at HTR ⊢;obtain ⟨R,hR⟩:∃ R,Hid (R=treeR d ll p):=⟨_,ι rfl⟩;rw [← hR.out] at HTR htl ⊢;clear he0 hR
 go_enter Tryz.func175,Tryz.ntmps175
 go_upto_region 1 with (fail);generalize w.alloc (.cells #[.int .i64 (d),.slice ga ll.length gc] 24)=w0 at *;refine wp_region_list ?_;refine Rg.lr 11 (Rg.exec_load (v:=.agg #[.int .i64 d,.slice ga ll.length gc]) _ _ rfl ⟨w.heap.size,0,none⟩ rfl (run_loadG G0.out.c0 G0.out.c1)) ?_;go_frame;refine Rg.lm 12 (.int .i64 p) ?_;go_frame;refine list_ask (some 13) rfl rfl _ _ (exec_fn 255 _ _ _ rfl rfl rfl (Vdcl0 _ _)) ?_;refine (HTR.out _ G0.out.rows).mono ?_;rintro e1 w1 ⟨v1,v2,v3,rfl,h1,h2,h3,hb⟩;clear h2 h3;refine ⟨_,rfl,?_⟩;go_frame;replace G0:=ι (G0.out.below hb);replace K:=ι (Rg.acc K.out hb);clear hb;have H1:=ι h1;refine Rg.lm 10 (.tuple #[v1,v2,v3,.int .i64 e0]) ?_;go_frame;refine Rg.lr 14 (exec_extract (v:=v1) _ _ rfl rfl rfl) ?_;go_frame;refine Rg.lr 15 (exec_extract (v:=v2) _ _ rfl rfl rfl) ?_;go_frame;refine Rg.lr 16 (exec_extract (v:=v3) _ _ rfl rfl rfl) ?_;go_frame
 refine Rg.lr 17 (exec_extract (v:=.int .i64 e0) _ _ rfl rfl rfl) ?_;go_frame;refine Rg.la 6 (v1) ?_;go_frame;refine Rg.la 7 (v2) ?_;go_frame;refine Rg.la 8 (v3) ?_;go_frame;refine Rg.la 9 (.int .i64 e0) ?_;go_frame;go_upto_region 2 with (fail);refine wp_region_list ?_;refine Rg.lm 18 (v1) ?_;go_frame;refine list_ask (some 19) rfl rfl _ _ (exec_fn1 256 _ _ rfl rfl (Vdcl1 _ _)) ?_;refine (ascending_any v1 _ w1 H1.out (by have:=htl.out; omega)).mono ?_;rintro e1 w2 ⟨ov,rfl,hov,hfo,hb⟩;have HF:=ι (hfo.mono K.out.size);clear hfo;refine ⟨_,rfl,?_⟩;go_frame;replace G0:=ι (G0.out.below hb);replace H1:=ι (H1.out.below hb);replace K:=ι (Rg.acc K.out hb);clear hb;have HV:=ι hov;refine Rg.lm 20 (.int .i64 e0) ?_;go_frame;refine Rg.la 4 (ov) ?_;go_frame;refine Rg.la 5 (.int .i64 e0) ?_;go_frame;go_wp2
 go_ret2
 exact ⟨_,rfl,HV.out,HF.out,K.out⟩
theorem refOrbit_any (gv:Value) (d:Int) (ll:List (List Int)) (p:Int) (w:World) (h:Rg.Rows w gv ll) :
  Calls Tryz.prog 175 #[.agg #[.int .i64 d,gv],.int .i64 p] w (LPost (orbS d ll p) w):=by
 refine (refOrbit_f gv d ll p w h).mono ?_;rintro e w' ⟨v,h1,h2,_,h3⟩;exact ⟨v,h1,h2,h3⟩

def R2 (B:Nat) (w:World) (v1 v2:Value) (l1 l2:List Int):Prop :=
 B≤w.heap.size∧w.ownsRow B 3 1 v1 l1.length (l1.map (Value.int .i64))∧w.ownsRow B 3 1 v2 l2.length (l2.map (Value.int .i64))∧Rg.Apart v1 v2
theorem R2.below {B:Nat} {w w':World} {v1 v2:Value} {l1 l2:List Int} (h:R2 B w v1 v2 l1 l2) (hb:Below w.heap.size w w'):R2 B w' v1 v2 l1 l2 :=
 ⟨Nat.le_trans h.1 hb.size,Rg.row_below h.2.1 hb,Rg.row_below h.2.2.1 hb,h.2.2.2⟩
theorem R2.nil {B:Nat} {w:World} (h:B≤w.heap.size):R2 B w (.slice none 0 0) (.slice none 0 0) [] []:=⟨h,World.ownsRow_nil _ _ _ _,World.ownsRow_nil _ _ _ _,Rg.Apart.nil _⟩
theorem R2.app1 {B:Nat} {w:World} {v1 v2:Value} {l1 l2:List Int} (h:R2 B w v1 v2 l1 l2) (hl:l1.length<1000000) {x:Int} {p c:Nat} (hc:w.cell? ⟨p,0,none⟩=some (.int .i64 x)) (ty:TypeId) :
  ∃ v' X,(Builtin.append_ #[36,36] ty #[v1,.slice (some ⟨p,0,none⟩) 1 c]).run Tryz.prog w=.ok v' X∧R2 B X v' v2 (l1++[x]) l2∧w.grownBy X v1.ownBlock:=by
 obtain ⟨h1,h2,h3,h4⟩:=h;obtain ⟨v',X,r1,r2,r3,r4,_⟩:=app_run (P:=Tryz.prog) slInts ty h2 h1 p c hc rfl hl;exact ⟨v',X,r1,⟨Nat.le_trans h1 r3.size,by simpa using r2,h4.keep h3 r3,h4.grow h3 r4 (Nat.le_refl _)⟩,r3⟩
theorem R2.swap {B:Nat} {w:World} {v1 v2:Value} {l1 l2:List Int} (h:R2 B w v1 v2 l1 l2):R2 B w v2 v1 l2 l1:=⟨h.1,h.2.2.1,h.2.1,h.2.2.2.symm⟩
theorem R2.ints1 {B:Nat} {w:World} {v1 v2:Value} {l1 l2:List Int} (h:R2 B w v1 v2 l1 l2) (hl:l1.length≤1000000000):Rg.Ints w v1 l1:=Rg.Ints.of_row h.2.1 hl
theorem R2.ints2 {B:Nat} {w:World} {v1 v2:Value} {l1 l2:List Int} (h:R2 B w v1 v2 l1 l2) (hl:l2.length≤1000000000):Rg.Ints w v2 l2:=Rg.Ints.of_row h.2.2.1 hl
end Go.Proofs.YthehbckogieimaaGreat

namespace Go.Proofs.YthehbckogieimaaGreat
open Go.RowKit
open Go.Proofs
open Go.Proofs.Ob
attribute [local irreducible] Go.Calls
variable {t e bt:TypeId} {B X n:Nat} {w w':World} {v lv:Value} {O:List (List Int)} {l:List Int} {F:Nat→Bool}
theorem infoInts:(Tryz.prog.info? 36).map (fun i=>(i.zero,i.size,i.bytes))=some (some (.slice none 0 0),1,24):=by kernel_rfl
theorem slIntss:Rg.SlT Tryz.prog 27 36 (.slice none 0 0) 24:=⟨Tryz.underlying27,infoInts,rfl,by decide⟩
theorem run_build1L (X:World) (u:Value) (hs:∃ a n c,u=.slice a n c):(Instr.buildSlice 27 1 #[(0,u)]).run Tryz.prog X=.ok (.slice (some ⟨X.heap.size,0,none⟩) 1 1) (X.alloc (.cells #[u] 36)):=by
 obtain ⟨i0,hi,hz0,hz1,hz2⟩:=info_parts infoInts;obtain ⟨a,n,c,rfl⟩:=hs;refine run_buildSlice X 27 36 1 _ _ i0 _ Tryz.underlying27 hi hz0 (by rw [hz1]; decide) (by rw [hz1]; decide) ?_;generalize (fun x=>((Value.slice none 0 0).cells)[x % (Value.slice none 0 0).cells.size]!)=f;rw [hz1];have h1:Array.range (1*1)=#[0]:=rfl;simp [Instr.fill,Value.cells,h1]
end Go.Proofs.YthehbckogieimaaGreat

namespace Go.Proofs.YthehbckogieimaaGreat
open Go.RowKit
open Go.Proofs
attribute [local irreducible] Go.Calls
theorem chMul_any (v1 v2:Value) (a c:List Nat) (w:World) (h:Rg.NP w v1 a) (h':Rg.NP w v2 c) (hac:∀ x∈a,x<c.length) (hn:a.length≤1000) (h1:1≤a.length) (h2:1≤c.length) :
  Calls Tryz.prog 183 #[v1,v2] w fun e w'=>∃ v,e=.returned v∧Rg.NPF w w' v (Ma.mulN a c)∧Below w.heap.size w w':=by
 obtain ⟨ad,cap,rfl,hc,_,_,hcell⟩:=h.shape;obtain ⟨b,o,rfl,hb,hr⟩:=hcell (by omega);obtain ⟨ad2,cap2,rfl,hc2,_,_,hcell2⟩:=h'.shape;obtain ⟨b2,o2,rfl,hb2,hr2⟩:=hcell2 (by omega);have Hr:=ι hr;have Hr2:=ι hr2;have Hac:=ι hac;clear hr hcell h hr2 hcell2 h' hac;have hmk:=mkPerm a.length (by omega) w;have hrow:=ι (World.rowIs_made w (.int .i64 0) a.length 3)
 go_enter Tryz.func183,Tryz.ntmps183
 go_wp2;clear hmk
 go_loopw [13] (fun i wr=>∃ k:Nat,k≤a.length∧i=.int .i64 k∧Hid (wr.rowIs w.heap.size 3 a.length (fun j=>.int .i64 (if j<k then ((c.getD (a.getD j 0) 0:Nat):Int) else 0)))∧Below w.heap.size w wr) (fun i _=>a.length - (intOf i).toNat)
 case atStart=>exact ⟨0,by omega,rfl,hrow.out.congr (fun i hi=>by simp),(Below.refl _ _).alloc (Nat.le_refl _) _⟩
 case round =>
  obtain ⟨k,hk,rfl,hs,hbel⟩:=hrel;obtain ⟨hc,hf⟩:=Rg.bcell hbel
  by_cases hlt:k<a.length
  ·have e0:wr.cell? ⟨b,o+k,none⟩=some (.int .i64 ((a[k]:Nat):Int)):=(hc b (o+k) hb).trans (Hr.out k hlt)
   have hak:a[k]<c.length:=Hac.out _ (List.getElem_mem hlt);have hga:a.getD k 0=a[k]:=Ma.getD_lt hlt
   have e1:wr.cell? ⟨b2,o2+a[k],none⟩=some (.int .i64 ((c.getD (a.getD k 0) 0:Nat):Int)):=by
    rw [hga,Ma.getD_lt hak];exact (hc b2 (o2+a[k]) hb2).trans (Hr2.out a[k] hak)
   generalize a[k]=x at *;have Hga:=ι hga;generalize hy:c.getD (a.getD k 0) 0=y at *;have Hy:=ι hy;clear hc hf hga hy;have c1:=hs.out.cell hlt;have f1:=hs.out.frozen k;simp only [Nat.lt_irrefl,if_false] at c1;go_wp2
   go_roundw
   case rel =>
    refine ⟨k+1,by omega,by go_num,?_,hbel.setCell (Nat.le_refl _) _⟩;refine (hs.out.set k _).congr fun i hi=>?_
    by_cases e:i=k
    ·subst e; rw [if_pos rfl,if_pos (by omega),Hy.out]
    ·rw [if_neg e]
     by_cases e2:i<k
     ·rw [if_pos e2,if_pos (by omega)]
     ·rw [if_neg e2,if_neg (by omega)]
   case measure=>simp [intOf]; omega
  ·obtain rfl:k=a.length:=by omega
   go_wp2;go_ret;refine ⟨_,rfl,⟨Rg.NP.of_rowIs hs.out (by rw [Ma.len_mulN]) (by omega) (fun i hi=>?_),Rg.Fresh.mk _ _ _ _⟩,by assumption⟩;rw [Ma.get_mulN];rw [Ma.len_mulN] at hi;rw [if_pos hi,Ma.getD_lt hi]
theorem chOne_any (n:Nat) (w:World) (hn:n≤1000) :
  Calls Tryz.prog 122 #[.int .i64 n] w fun e w'=>∃ v,e=.returned v∧Rg.NPF w w' v (Ma.oneN n)∧Below w.heap.size w w':=by
 have hmk:=mkPerm n (by omega) w;have hrow:=ι (World.rowIs_made w (.int .i64 0) n 3)
 go_enter Tryz.func122,Tryz.ntmps122
 go_wp2;clear hmk
 go_loopw [9] (fun i wr=>∃ k:Nat,k≤n∧i=.int .i64 k∧Hid (wr.rowIs w.heap.size 3 n (fun j=>.int .i64 (if j<k then (j:Int) else 0)))∧Below w.heap.size w wr) (fun i _=>n - (intOf i).toNat)
 case atStart=>exact ⟨0,by omega,rfl,hrow.out.congr (fun i hi=>by simp),(Below.refl _ _).alloc (Nat.le_refl _) _⟩
 case round =>
  obtain ⟨k,hk,rfl,hs,hbel⟩:=hrel
  by_cases hlt:k<n
  ·have c1:=hs.out.cell hlt
   have f1:=hs.out.frozen k;simp only [Nat.lt_irrefl,if_false] at c1;go_wp2
   go_roundw
   case rel =>
    refine ⟨k+1,by omega,by go_num,?_,hbel.setCell (Nat.le_refl _) _⟩;refine (hs.out.set k _).congr fun i hi=>?_
    by_cases e:i=k
    ·subst e; simp
    ·rw [if_neg e]
     by_cases e2:i<k
     ·rw [if_pos e2,if_pos (by omega)]
     ·rw [if_neg e2,if_neg (by omega)]
   case measure=>simp [intOf]; omega
  ·obtain rfl:k=n:=by omega
   go_wp2;go_ret;refine ⟨_,rfl,⟨Rg.NP.of_rowIs hs.out (by rw [Ma.len_oneN]) (by omega) (fun i hi=>?_),Rg.Fresh.mk _ _ _ _⟩,by assumption⟩;rw [Ma.get_oneN];rw [Ma.len_oneN] at hi;rw [if_pos hi]
theorem chInv_any (v:Value) (a:List Nat) (w:World) (h:Rg.NP w v a) (ha:Ma.okN a) (hn:a.length≤1000) (h1:1≤a.length) :
  Calls Tryz.prog 184 #[v] w fun e w'=>∃ v,e=.returned v∧Rg.NPF w w' v (Ma.invN a)∧Below w.heap.size w w':=by
 obtain ⟨ad,cap,rfl,hc,_,_,hcell⟩:=h.shape;obtain ⟨b,o,rfl,hb,hr⟩:=hcell (by omega);have Hr:=ι hr;clear hr hcell h;have hmk:=mkPerm a.length (by omega) w;have hrow:=ι (World.rowIs_made w (.int .i64 0) a.length 3)
 go_enter Tryz.func184,Tryz.ntmps184
 go_wp2;clear hmk
 go_loopw [11] (fun i wr=>∃ k:Nat,k≤a.length∧i=.int .i64 k∧Hid (wr.rowIs w.heap.size 3 a.length (fun j=>.int .i64 (if j∈a.take k then ((a.idxOf j:Nat):Int) else 0)))∧Below w.heap.size w wr) (fun i _=>a.length - (intOf i).toNat)
 case atStart=>exact ⟨0,by omega,rfl,hrow.out.congr (fun i hi=>by simp),(Below.refl _ _).alloc (Nat.le_refl _) _⟩
 case round =>
  obtain ⟨k,hk,rfl,hs,hbel⟩:=hrel;obtain ⟨hc,hf⟩:=Rg.bcell hbel
  by_cases hlt:k<a.length
  ·have hlt':k<a.length:=hlt
   have e0:wr.cell? ⟨b,o+k,none⟩=some (.int .i64 ((a[k]:Nat):Int)):=(hc b (o+k) hb).trans (Hr.out k hlt');have hak:a[k]<a.length:=Ma.okN_lt ha hlt';have hix:=Ma.idx_get ha hlt'
   have hmem:∀ i,i∈a.take (k+1)↔(i∈a.take k∨i=a[k]):=fun i=>by rw [List.take_succ_eq_append_getElem hlt',List.mem_append,List.mem_singleton]
   generalize hx:a[k]=x at *;have Hx:=ι hx;have Hix:=ι hix;have Hmem:=ι hmem;clear hx hc hf hix hmem;have c1:=hs.out.cell hak;have f1:=hs.out.frozen x;generalize (Value.int .i64 (if x∈a.take k then ((a.idxOf x:Nat):Int) else 0))=u0 at c1;go_wp2
   go_roundw
   case rel =>
    refine ⟨k+1,by omega,by go_num,?_,hbel.setCell (Nat.le_refl _) _⟩;refine (hs.out.set x _).congr fun i hi=>?_
    by_cases e:i=x
    ·subst e; rw [if_pos rfl,if_pos ((Hmem.out i).2 (.inr rfl)),Hix.out]
    ·rw [if_neg e]
     by_cases e2:i∈a.take k
     ·rw [if_pos e2,if_pos ((Hmem.out i).2 (.inl e2))]
     ·rw [if_neg e2,if_neg (fun e3=>((Hmem.out i).1 e3).elim e2 e)]
   case measure=>simp [intOf]; omega
  ·obtain rfl:k=a.length:=by omega
   go_wp2;go_ret;refine ⟨_,rfl,⟨Rg.NP.of_rowIs hs.out (by rw [Ma.len_invN]) (by omega) (fun i hi=>?_),Rg.Fresh.mk _ _ _ _⟩,by assumption⟩;rw [Ma.get_invN];rw [Ma.len_invN] at hi;rw [List.take_of_length_le (Nat.le_refl _),if_pos (Ma.okN_mem ha hi)]
theorem rowKp {M:Nat→Prop} {w w':World} {base:Nat} {e:TypeId} {size:Nat} {v:Value} {n:Nat} {xs:List Value} (h:w.ownsRow base e size v n xs) (hk:Rg.Kp M w w') (hM:∀ k,M k→v.ownBlock≠some k):w'.ownsRow base e size v n xs:=by
 obtain ⟨h1,h2⟩:=h
 rcases h2 with h2 | ⟨g,cap,cur,rfl,hg,hc,h3⟩
 ·exact ⟨h1,.inl h2⟩
 ·exact ⟨h1,.inr ⟨g,cap,cur,rfl,hg,(hk.block g (Array.getElem?_eq_some_iff.1 hc).1 (fun e=>hM g e (by simp [Value.ownBlock]))).trans hc,h3⟩⟩
def KF (F:Nat→Prop) (w w':World):Prop:=Rg.Kp (fun k=>¬ F k) w w'
theorem KF.refl (F:Nat→Prop) (w:World):KF F w w:=Rg.Kp.refl _ _
theorem KF.size {F:Nat→Prop} {w w':World} (h:KF F w w'):w.heap.size≤w'.heap.size:=Rg.Kp.size h
theorem KF.of_below {F:Nat→Prop} {w w':World} (h:Below w.heap.size w w'):KF F w w':=Rg.Kp.of_below h
theorem KF.trans {F F':Nat→Prop} {w w' w'':World} (h:KF F w w') (h':KF F' w' w'') (hF:∀ k,F k→F' k):KF F w w'':=Rg.Kp.trans h h' (fun k _ hk hf=>hk (hF k hf))
theorem KF.weak {F F':Nat→Prop} {w w':World} (h:KF F' w w') (hF:∀ k,F k→F' k):KF F w w':=Rg.Kp.weak h (fun k hk hf=>hk (hF k hf))
theorem KF.cell {F:Nat→Prop} {w w':World} (h:KF F w w') {b o:Nat} (hF:F b) (hb:b<w.heap.size):w'.cell? ⟨b,o,none⟩=w.cell? ⟨b,o,none⟩ :=
 World.cell?_of_block (a:=⟨b,o,none⟩) (Rg.Kp.block h b hb (fun e=>e hF))
theorem KF.below {F:Nat→Prop} {w w':World} {B:Nat} (h:KF F w w') (hB:B≤w.heap.size) (hF:∀ k,k<B→F k):Below B w w' :=
 ⟨Rg.Kp.os h,Rg.Kp.tape h,Rg.Kp.output h,h.size,fun k hk=>Rg.Kp.block h k (Nat.lt_of_lt_of_le hk hB) (fun e=>e (hF k hk))⟩
def Fup (F:Nat→Prop) (w w':World):Nat→Prop:=fun k=>F k∨(w.heap.size≤k∧k<w'.heap.size)
structure KG (F0:Nat→Prop) (w0:World) (F:Nat→Prop) (w:World):Prop where
 sub:∀ k,F0 k→F k
 lt:∀ k,F k→k<w.heap.size
 kf:KF F0 w0 w
theorem KG.refl {F:Nat→Prop} {w:World} (h:∀ k,F k→k<w.heap.size):KG F w F w:=⟨fun _ h=>h,h,KF.refl _ _⟩
theorem KG.up {F0 F:Nat→Prop} {w0 w w':World} (h:KG F0 w0 F w) (hb:Below w.heap.size w w'):KG F0 w0 (Fup F w w') w' :=
 ⟨fun k hk=>.inl (h.sub k hk),fun k hk=>by rcases hk with hk | hk; exact Nat.lt_of_lt_of_le (h.lt k hk) hb.size; exact hk.2,KF.trans h.kf (KF.of_below (F:=F) hb) h.sub⟩
theorem KG.kf' {F0 F:Nat→Prop} {w0 w w':World} (h:KG F0 w0 F w) (hk:KF F w w'):KG F0 w0 F w' :=
 ⟨h.sub,fun k hf=>Nat.lt_of_lt_of_le (h.lt k hf) hk.size,KF.trans h.kf hk h.sub⟩
theorem KG.trans {F0 F F':Nat→Prop} {w0 w w':World} (h:KG F0 w0 F w) (h':KG F w F' w'):KG F0 w0 F' w' :=
 ⟨fun k hk=>h'.sub k (h.sub k hk),h'.lt,KF.trans h.kf h'.kf h.sub⟩
structure CF (F:Nat→Prop) (w:World) (b o:Nat) (v:Value):Prop where
 cell:w.cell? ⟨b,o,none⟩=some v
 inF:F b
 lt:b<w.heap.size
theorem CF.up {F:Nat→Prop} {w w':World} {b o:Nat} {v:Value} (h:CF F w b o v) (hb:Below w.heap.size w w'):CF (Fup F w w') w' b o v :=
 ⟨(hb.cell (p:=⟨b,o,none⟩) h.lt).trans h.cell,.inl h.inF,Nat.lt_of_lt_of_le h.lt hb.size⟩
theorem CF.kf {F:Nat→Prop} {w w':World} {b o:Nat} {v:Value} (h:CF F w b o v) (hk:KF F w w'):CF F w' b o v :=
 ⟨(hk.cell h.inF h.lt).trans h.cell,h.inF,Nat.lt_of_lt_of_le h.lt hk.size⟩
theorem CF.mono {F F':Nat→Prop} {w:World} {b o:Nat} {v:Value} (h:CF F w b o v) (hF:∀ k,F k→F' k):CF F' w b o v:=⟨h.cell,hF _ h.inF,h.lt⟩
theorem CF.kg {F F':Nat→Prop} {w w':World} {b o:Nat} {v:Value} (h:CF F w b o v) (hk:KG F w F' w'):CF F' w' b o v:=(h.kf hk.kf).mono hk.sub
theorem fvals_up {F:Nat→Prop} {w w':World} {v:Value} {us:List Value} (h:Rg.FVals F w v us) (hb:Below w.heap.size w w'):Rg.FVals (Fup F w w') w' v us:=by
 obtain ⟨a,cap,h1,h2,h3,h4,h5⟩:=h;refine ⟨a,cap,h1,h2,h3,h4,fun h0=>?_⟩;obtain ⟨b,o,e1,e2,e3,e4⟩:=h5 h0;exact ⟨b,o,e1,Nat.lt_of_lt_of_le e2 hb.size,.inl e3,fun i hi=>(hb.cell (p:=⟨b,o+i,none⟩) e2).trans (e4 i hi)⟩
def FP (F:Nat→Prop) (w:World) (v:Value) (p:List Nat):Prop:=Rg.FI F w v (Ma.ofN p)
theorem FP.np {F:Nat→Prop} {w:World} {v:Value} {p:List Nat} (h:FP F w v p):Rg.NP w v p:=Rg.FI.ints h
theorem FP.up {F:Nat→Prop} {w w':World} {v:Value} {p:List Nat} (h:FP F w v p) (hb:Below w.heap.size w w'):FP (Fup F w w') w' v p:=fvals_up h hb
theorem FP.kf {F:Nat→Prop} {w w':World} {v:Value} {p:List Nat} (h:FP F w v p) (hk:KF F w w'):FP F w' v p:=Rg.FI.kp h hk (fun _ hF hn=>hn hF)
theorem FP.mono {F F':Nat→Prop} {w:World} {v:Value} {p:List Nat} (h:FP F w v p) (hF:∀ k,F k→F' k):FP F' w v p:=Rg.FI.mono h hF
theorem FP.kg {F F':Nat→Prop} {w w':World} {v:Value} {p:List Nat} (h:FP F w v p) (hk:KG F w F' w'):FP F' w' v p:=(h.kf hk.kf).mono hk.sub
theorem FP.new {F:Nat→Prop} {w w':World} {v:Value} {p:List Nat} (h:Rg.NPF w w' v p):FP (Fup F w w') w' v p:=by
 obtain ⟨h,hf⟩:=h;obtain ⟨a,cap,h1,h2,h3,h4,h5⟩:=h;refine ⟨a,cap,h1,h2,h3,h4,fun h0=>?_⟩;obtain ⟨b,o,e1,e2,e3⟩:=h5 h0;subst e1;exact ⟨b,o,rfl,e2,.inr ⟨hf _ _ _ h1,e2⟩,e3⟩
theorem FP.shape {F:Nat→Prop} {w:World} {v:Value} {p:List Nat} (h:FP F w v p) (h1:1≤p.length):∃ b o c,v=.slice (some ⟨b,o,none⟩) p.length c∧F b∧b<w.heap.size∧∀ i (hi:i<p.length),w.cell? ⟨b,o+i,none⟩=some (.int .i64 ((p[i]:Nat):Int)):=by
 obtain ⟨a,cap,e,h2,h3,h4,h5⟩:=h;rw [List.length_map,Ma.len_ofN] at e;obtain ⟨b,o,e1,e2,e3,e4⟩:=h5 (by rw [List.length_map,Ma.len_ofN]; omega);subst e1;exact ⟨b,o,cap,e,e3,e2,fun i hi=>by rw [e4 i (by simp [Ma.len_ofN]; exact hi)]; simp [Ma.ofN]⟩
theorem FP.cell {F:Nat→Prop} {w:World} {b o n c:Nat} {p:List Nat} (h:FP F w (.slice (some ⟨b,o,none⟩) n c) p) {i:Nat} (hi:i<p.length):CF F w b (o+i) (.int .i64 ((p.getD i 0:Nat):Int)):=by
 obtain ⟨b',o',c',e,h1,h2,h3⟩:=h.shape (by omega);simp at e;obtain ⟨⟨rfl,rfl⟩,_,_⟩:=e;exact ⟨by rw [h3 i hi]; simp [List.getD,List.getElem?_eq_getElem hi],h1,h2⟩
structure LV where
 g:Value
 us:List Value
 o:Value
 t:Nat→Value
 b:Nat→Value
open Go.Proofs.Cm (Lv Twr)
def cont (l:Lv) (v:LV) (m:Nat):Value :=
 if m=0 then v.g else if m=1 then v.o else if m<66 then v.t (m - 2) else if m<130 then v.b (m - 66) else .int .i64 ((l.tried (m - 130):Nat):Int)
structure LvOk (F:Nat→Prop) (L:Nat) (w:World) (l:Lv) (v:LV):Prop where
 gown:w.ownsRow 0 51 1 v.g l.gens.length v.us
 gel:Rg.FElts F w v.us (l.gens.map Ma.ofN)
 oown:w.ownsRow 0 3 1 v.o l.orb.length ((Ma.ofN l.orb).map (Value.int .i64))
 gF:∀ k,v.g.ownBlock=some k→¬ F k∧k≠L
 oF:∀ k,v.o.ownBlock=some k→¬ F k∧k≠L
 go:∀ k,v.g.ownBlock=some k→v.o.ownBlock≠some k
 some_:∀ p x,p<64→l.rep p=some x→FP F w (v.t p) x∧FP F w (v.b p) (Ma.invN x)
 none_:∀ p,p<64→l.rep p=none→v.t p=.slice none 0 0∧v.b p=.slice none 0 0
def LV.own (v:LV) (k:Nat):Prop:=v.g.ownBlock=some k∨v.o.ownBlock=some k
structure TowAt (F:Nat→Prop) (L n:Nat) (w:World) (T:Twr) (V:Nat→LV):Prop where
 Flt:∀ k,F k→k<w.heap.size
 LF:¬ F L
 row:w.rowIs L 210 (n*194) (fun j=>cont (T (j / 194)) (V (j / 194)) (j % 194))
 lv:∀ i,i<n→LvOk F L w (T i) (V i)
 dist:∀ i j,i<n→j<n→i≠j→∀ k,(V i).own k→¬ (V j).own k
theorem rowIs_lt {w:World} {b:Nat} {t:TypeId} {n:Nat} {f:Nat→Value} (h:w.rowIs b t n f):b<w.heap.size:=by
 obtain ⟨c,h1,_⟩:=h;exact (Array.getElem?_eq_some_iff.1 h1).1
theorem TowAt.lt {F:Nat→Prop} {L n:Nat} {w:World} {T:Twr} {V:Nat→LV} (h:TowAt F L n w T V):L<w.heap.size:=rowIs_lt h.row
theorem div_mod {i m n:Nat} (hi:i<n) (hm:m<194):(i*194+m) / 194=i∧(i*194+m) % 194=m∧i*194+m<n*194:=by
 refine ⟨by omega,by omega,?_⟩;have:(i+1)*194≤n*194:=Nat.mul_le_mul_right _ hi;omega
theorem TowAt.cell {F:Nat→Prop} {L n:Nat} {w:World} {T:Twr} {V:Nat→LV} (h:TowAt F L n w T V) {i m o:Nat} (hi:i<n) (hm:m<194) (ho:o=i*194+m):w.cell? ⟨L,o,none⟩=some (cont (T i) (V i) m):=by
 subst ho;obtain ⟨h1,h2,h3⟩:=div_mod hi hm;have:=h.row.cell h3;rw [this,h1,h2]
theorem TowAt.frozen {F:Nat→Prop} {L n:Nat} {w:World} {T:Twr} {V:Nat→LV} (h:TowAt F L n w T V) (o:Nat):w.frozen? ⟨L,o,none⟩=false:=h.row.frozen _
theorem LvOk.kp {F M:Nat→Prop} {L:Nat} {w w':World} {l:Lv} {v:LV} (h:LvOk F L w l v) (hk:Rg.Kp M w w') (hF:∀ k,F k→¬ M k) (ho:∀ k,v.own k→¬ M k):LvOk F L w' l v:=by
 refine ⟨rowKp h.gown hk (fun k hm e=>ho k (.inl e) hm),h.gel.kp hk hF,rowKp h.oown hk (fun k hm e=>ho k (.inr e) hm),h.gF,h.oF,h.go,fun p x hp hx=>?_,h.none_⟩;obtain ⟨h1,h2⟩:=h.some_ p x hp hx;exact ⟨Rg.FI.kp h1 hk hF,Rg.FI.kp h2 hk hF⟩
theorem LvOk.mono {F F':Nat→Prop} {L:Nat} {w:World} {l:Lv} {v:LV} (h:LvOk F L w l v) (hF:∀ k,F k→F' k) (ho:∀ k,v.own k→¬ F' k):LvOk F' L w l v:=by
 refine ⟨h.gown,h.gel.mono hF,h.oown,fun k e=>⟨ho k (.inl e),(h.gF k e).2⟩,fun k e=>⟨ho k (.inr e),(h.oF k e).2⟩,h.go,fun p x hp hx=>?_,h.none_⟩;obtain ⟨h1,h2⟩:=h.some_ p x hp hx;exact ⟨h1.mono hF,h2.mono hF⟩
theorem LvOk.lt {F:Nat→Prop} {L:Nat} {w:World} {l:Lv} {v:LV} (h:LvOk F L w l v):∀ k,v.own k→k<w.heap.size:=fun k e=>by
 rcases e with e | e
 ·exact (h.gown.lt k e).2
 ·exact (h.oown.lt k e).2
theorem LvOk.nF {F:Nat→Prop} {L:Nat} {w:World} {l:Lv} {v:LV} (h:LvOk F L w l v):∀ k,v.own k→¬ F k∧k≠L:=fun k e=>by
 rcases e with e | e
 ·exact h.gF _ e
 ·exact h.oF _ e
theorem rowIs_kp {M:Nat→Prop} {w w':World} {b:Nat} {t:TypeId} {n:Nat} {f:Nat→Value} (h:w.rowIs b t n f) (hk:Rg.Kp M w w') (hM:¬ M b):w'.rowIs b t n f:=by
 have hlt:=rowIs_lt h;obtain ⟨c,h1,h2,h3⟩:=h;exact ⟨c,by rw [hk.block b hlt hM]; exact h1,h2,h3⟩
theorem TowAt.up {F:Nat→Prop} {L n:Nat} {w w':World} {T:Twr} {V:Nat→LV} (h:TowAt F L n w T V) (hb:Below w.heap.size w w'):TowAt (Fup F w w') L n w' T V:=by
 have hk:Rg.Kp (fun k=>False) w w':=Rg.Kp.of_below hb;have hL:=h.lt
 refine ⟨fun k hk=>by rcases hk with hk | hk; exact Nat.lt_of_lt_of_le (h.Flt k hk) hb.size; exact hk.2,fun e=>?_,rowIs_kp h.row hk id,fun i hi=>?_,h.dist⟩
 ·rcases e with e | e
  ·exact h.LF e
  ·omega
 ·have hv:=h.lv i hi
  refine (hv.kp hk (fun _ _=>id) (fun _ _=>id)).mono (fun k=>.inl) (fun k e=>?_);have h1:=hv.lt k e;have h2:=(hv.nF k e).1
  rintro (h3 | h3)
  ·exact h2 h3
  ·omega
theorem put2 {F:Nat→Prop} {L n:Nat} {w:World} {T T':Twr} {V V':Nat→LV} {i m o:Nat} {x:Value} (Flt:∀ k,F k→k<w.heap.size) (LF:¬ F L)
  (row:w.rowIs L 210 (n*194) (fun j=>cont (T (j / 194)) (V (j / 194)) (j % 194))) (lv:∀ j,j<n→j≠i→LvOk F L w (T j) (V j))
  (dist:∀ a b,a<n→b<n→a≠b→a≠i→b≠i→∀ k,(V a).own k→¬ (V b).own k) (hi:i<n) (hm:m<194) (ho:o=i*194+m)
  (hT:∀ j,j≠i→T' j=T j∧V' j=V j) (hc:∀ m',m' < 194→cont (T' i) (V' i) m'=if m'=m then x else cont (T i) (V i) m')
  (hv:LvOk F L w (T' i) (V' i)) (hd:∀ j k,j<n→j≠i→(V' i).own k→¬ (V j).own k) :
  TowAt F L n (w.setCell ⟨L,o,none⟩ x) T' V'∧KF F w (w.setCell ⟨L,o,none⟩ x):=by
 subst ho;have hk:Rg.Kp (fun k=>k=L) w (w.setCell ⟨L,i*194+m,none⟩ x):=Rg.Kp.of_setCell rfl;have hFL:∀ k,F k→¬ k=L:=fun k hk e=>LF (e▸hk);refine ⟨⟨fun k hf=>Nat.lt_of_lt_of_le (Flt k hf) hk.size,LF,?_,fun j hj=>?_,fun a b ha hb hab k h1 h2=>?_⟩,Rg.Kp.weak hk fun k e hf=>hFL k hf e⟩
 ·refine (row.set (i*194+m) x).congr fun j hj=>?_
  obtain ⟨h1,h2,_⟩:=div_mod hi hm
  by_cases e:j / 194=i
  ·have hm':j % 194<194:=Nat.mod_lt _ (by decide)
   have:=hc (j % 194) hm'
   by_cases e2:j=i*194+m
   ·rw [if_pos e2,e,this,if_pos (by rw [e2,h2])]
   ·rw [if_neg e2,e,this,if_neg (by omega)]
  ·have e2:j≠i*194+m:=by rintro rfl; exact e h1
   rw [if_neg e2,(hT _ e).1,(hT _ e).2]
 ·by_cases e:j=i
  ·subst e
   exact hv.kp hk hFL fun k e=>(hv.nF k e).2
  ·rw [(hT j e).1,(hT j e).2]
   exact (lv j hj e).kp hk hFL fun k e'=>((lv j hj e).nF k e').2
 ·by_cases ea:a=i
  ·have eb:b≠i:=fun e=>hab (ea.trans e.symm)
   rw [ea] at h1; rw [(hT b eb).2] at h2;exact hd b k hb eb h1 h2
  ·rw [(hT a ea).2] at h1
   by_cases eb:b=i
   ·rw [eb] at h2
    exact hd a k ha ea h2 h1
   ·rw [(hT b eb).2] at h2
    exact dist a b ha hb hab ea eb k h1 h2
theorem TowAt.put {F:Nat→Prop} {L n:Nat} {w:World} {T T':Twr} {V V':Nat→LV} (h:TowAt F L n w T V) {i m o:Nat} {x:Value} (hi:i<n) (hm:m<194) (ho:o=i*194+m)
  (hT:∀ j,j≠i→T' j=T j∧V' j=V j) (hc:∀ m',m' < 194→cont (T' i) (V' i) m'=if m'=m then x else cont (T i) (V i) m')
  (hv:LvOk F L w (T' i) (V' i)) (hd:∀ j k,j<n→j≠i→(V' i).own k→¬ (V j).own k) :
  TowAt F L n (w.setCell ⟨L,o,none⟩ x) T' V'∧KF F w (w.setCell ⟨L,o,none⟩ x) :=
 put2 h.Flt h.LF h.row (fun j hj _=>h.lv j hj) (fun a b ha hb hab _ _=>h.dist a b ha hb hab) hi hm ho hT hc hv hd
theorem TowAt.tick {F:Nat→Prop} {L n:Nat} {w:World} {T:Twr} {V:Nat→LV} (h:TowAt F L n w T V) {i q o:Nat} (hi:i<n) (hq:q<64) (ho:o=i*194+(130+q)) :
  TowAt F L n (w.setCell ⟨L,o,none⟩ (.int .i64 (((T i).tried q+1:Nat):Int))) (Cm.tick T i q) V∧KF F w (w.setCell ⟨L,o,none⟩ (.int .i64 (((T i).tried q+1:Nat):Int))):=by
 have hv:=h.lv i hi;refine h.put hi (by omega) ho (fun j hj=>⟨Cm.tick_ne hj,rfl⟩) (fun m' hm'=>?_) ?_ (fun j k hj hne e1 e2=>h.dist i j hi hj (Ne.symm hne) k e1 e2)
 ·rw [Cm.tick_at]
  unfold cont
  by_cases h0:m'=0
  ·subst h0; simp; omega
  by_cases h1:m'=1
  ·subst h1; simp; omega
  by_cases h2:m' < 66
  ·simp [h0,h1,h2]; omega
  by_cases h3:m' < 130
  ·simp [h0,h1,h2,h3]; omega
  ·simp only [h0,h1,h2,h3,if_false]
   by_cases e:m'=130+q
   ·subst e; simp
   ·rw [if_neg e,if_neg (by omega)]
 ·rw [Cm.tick_at]
  exact ⟨hv.gown,hv.gel,hv.oown,hv.gF,hv.oF,hv.go,hv.some_,hv.none_⟩
def setTo (T:Twr) (i p:Nat) (y:List Nat):Twr:=fun j=>if j=i then { T j with rep:=fun z=>if z=p then some y else (T j).rep z } else T j
def pushO (T:Twr) (i p:Nat):Twr:=fun j=>if j=i then { T j with orb:=(T j).orb++[p] } else T j
def pushG (T:Twr) (i:Nat) (r:List Nat):Twr:=fun j=>if j=i then { T j with gens:=(T j).gens++[r] } else T j
theorem find_eq (T:Twr) (i p:Nat) (y:List Nat):Cm.find T i p y=pushO (setTo T i p y) i p:=by
 funext j
 unfold Cm.find pushO setTo
 by_cases e:j=i
 ·simp [e]
 ·simp [e]
theorem TowAt.setTo {F:Nat→Prop} {L n:Nat} {w:World} {T:Twr} {V:Nat→LV} (h:TowAt F L n w T V) {i p o1 o2:Nat} {y:List Nat} {yv bv:Value} (hi:i<n) (hp:p<64) (ho1:o1=i*194+(2+p)) (ho2:o2=i*194+(66+p))
  (hy:FP F w yv y) (hb:FP F w bv (Ma.invN y)) :
  ∃ V',TowAt F L n ((w.setCell ⟨L,o1,none⟩ yv).setCell ⟨L,o2,none⟩ bv) (setTo T i p y) V'∧KF F w ((w.setCell ⟨L,o1,none⟩ yv).setCell ⟨L,o2,none⟩ bv):=by
 subst ho1 ho2;have hv:=h.lv i hi
 let V1:Nat→LV:=fun j=>if j=i then { V j with t:=fun z=>if z=p then yv else (V j).t z,b:=fun z=>if z=p then bv else (V j).b z } else V j
 have e1:V1 i={ V i with t:=fun z=>if z=p then yv else (V i).t z,b:=fun z=>if z=p then bv else (V i).b z }:=if_pos rfl
 have eT:Go.Proofs.YthehbckogieimaaGreat.setTo T i p y i={ T i with rep:=fun z=>if z=p then some y else (T i).rep z }:=if_pos rfl
 have hk1:Rg.Kp (fun k=>k=L) w (w.setCell ⟨L,i*194+(2+p),none⟩ yv):=Rg.Kp.of_setCell rfl;have hk2:Rg.Kp (fun k=>k=L) (w.setCell ⟨L,i*194+(2+p),none⟩ yv) ((w.setCell ⟨L,i*194+(2+p),none⟩ yv).setCell ⟨L,i*194+(66+p),none⟩ bv):=Rg.Kp.of_setCell rfl;have hk:=Rg.Kp.trans hk1 hk2 (fun k _ e=>e);have hFL:∀ k,F k→¬ k=L:=fun k hk e=>h.LF (e▸hk)
 have hvi:LvOk F L w (Go.Proofs.YthehbckogieimaaGreat.setTo T i p y i) (V1 i):=by
  rw [eT,e1];refine ⟨hv.gown,hv.gel,hv.oown,hv.gF,hv.oF,hv.go,fun z x hz hx=>?_,fun z hz hx=>?_⟩
  ·have hx':(if z=p then some y else (T i).rep z)=some x:=hx
   by_cases e:z=p
   ·rw [if_pos e] at hx'; cases hx'
    simp only [e,if_true]; exact ⟨hy,hb⟩
   ·rw [if_neg e] at hx'
    simp only [e,if_false]; exact hv.some_ z x hz hx'
  ·have hx':(if z=p then some y else (T i).rep z)=none:=hx
   by_cases e:z=p
   ·rw [if_pos e] at hx'; cases hx'
   ·rw [if_neg e] at hx'
    simp only [e,if_false]; exact hv.none_ z hz hx'
 refine ⟨V1,⟨fun k hf=>Nat.lt_of_lt_of_le (h.Flt k hf) hk.size,h.LF,?_,fun j hj=>?_,fun a b ha hb hab k h1 h2=>?_⟩,Rg.Kp.weak hk fun k e hf=>hFL k hf e⟩
 ·refine ((h.row.set (i*194+(2+p)) yv).set (i*194+(66+p)) bv).congr fun j hj=>?_
  have hm':j % 194<194:=Nat.mod_lt _ (by decide)
  by_cases e:j / 194=i
  ·rw [e,eT,e1]
   by_cases a:j=i*194+(66+p)
   ·have:j % 194=66+p:=by omega
    rw [if_pos a,this]; unfold cont;rw [if_neg (by omega),if_neg (by omega),if_neg (by omega),if_pos (by omega)];simp
   ·rw [if_neg a]
    by_cases b:j=i*194+(2+p)
    ·have:j % 194=2+p:=by omega
     rw [if_pos b,this]; unfold cont;rw [if_neg (by omega),if_neg (by omega),if_pos (by omega)];simp
    ·rw [if_neg b]
     unfold cont
     by_cases h0:j % 194=0
     ·simp [h0]
     by_cases h1:j % 194=1
     ·simp [h1]
     by_cases h2:j % 194<66
     ·simp only [h0,h1,h2,if_false,if_true]
      show _=(if j % 194 - 2=p then yv else (V i).t (j % 194 - 2));rw [if_neg (by omega)]
     by_cases h3:j % 194<130
     ·simp only [h0,h1,h2,h3,if_false,if_true]
      show _=(if j % 194 - 66=p then bv else (V i).b (j % 194 - 66));rw [if_neg (by omega)]
     ·simp [h0,h1,h2,h3]
  ·have ev:V1 (j / 194)=V (j / 194):=if_neg e
   have et:Go.Proofs.YthehbckogieimaaGreat.setTo T i p y (j / 194)=T (j / 194):=if_neg e;rw [if_neg (by rintro rfl; exact e (div_mod hi (by omega)).1),if_neg (by rintro rfl; exact e (div_mod hi (by omega)).1),ev,et]
 ·by_cases e:j=i
  ·subst e
   exact hvi.kp hk hFL fun k e=>(hvi.nF k e).2
  ·have ev:V1 j=V j:=if_neg e
   have et:Go.Proofs.YthehbckogieimaaGreat.setTo T i p y j=T j:=if_neg e;rw [ev,et];exact (h.lv j hj).kp hk hFL fun k e=>((h.lv j hj).nF k e).2
 ·have ho:∀ j k,(V1 j).own k→(V j).own k:=fun j k hk=>by
   by_cases e:j=i
   ·subst e; rw [e1] at hk; exact hk
   ·have ev:V1 j=V j:=if_neg e
    rwa [ev] at hk
  exact h.dist a b ha hb hab k (ho a k h1) (ho b k h2)
theorem getTo {F:Nat→Prop} {L n:Nat} {w:World} {T:Twr} {V:Nat→LV} (h:TowAt F L n w T V) {i p o:Nat} (hi:i<n) (hp:p<64) (ho:o=i*194+(2+p)):w.cell? ⟨L,o,none⟩=some ((V i).t p):=by
 rw [h.cell hi (m:=2+p) (by omega) ho];unfold cont;rw [if_neg (by omega),if_neg (by omega),if_pos (by omega),show 2+p - 2=p by omega]
theorem getBy {F:Nat→Prop} {L n:Nat} {w:World} {T:Twr} {V:Nat→LV} (h:TowAt F L n w T V) {i p o:Nat} (hi:i<n) (hp:p<64) (ho:o=i*194+(66+p)):w.cell? ⟨L,o,none⟩=some ((V i).b p):=by
 rw [h.cell hi (m:=66+p) (by omega) ho];unfold cont;rw [if_neg (by omega),if_neg (by omega),if_neg (by omega),if_pos (by omega),show 66+p - 66=p by omega]
theorem getTried {F:Nat→Prop} {L n:Nat} {w:World} {T:Twr} {V:Nat→LV} (h:TowAt F L n w T V) {i p o:Nat} (hi:i<n) (hp:p<64) (ho:o=i*194+(130+p)):w.cell? ⟨L,o,none⟩=some (.int .i64 (((T i).tried p:Nat):Int)):=by
 rw [h.cell hi (m:=130+p) (by omega) ho];unfold cont;rw [if_neg (by omega),if_neg (by omega),if_neg (by omega),if_neg (by omega),show 130+p - 130=p by omega]
theorem getG {F:Nat→Prop} {L n:Nat} {w:World} {T:Twr} {V:Nat→LV} (h:TowAt F L n w T V) {i o:Nat} (hi:i<n) (ho:o=i*194):w.cell? ⟨L,o,none⟩=some (V i).g:=by
 rw [h.cell hi (m:=0) (by omega) ho]; rfl
theorem getO {F:Nat→Prop} {L n:Nat} {w:World} {T:Twr} {V:Nat→LV} (h:TowAt F L n w T V) {i o:Nat} (hi:i<n) (ho:o=i*194+1):w.cell? ⟨L,o,none⟩=some (V i).o:=by
 rw [h.cell hi (m:=1) (by omega) ho]; rfl
end Go.Proofs.YthehbckogieimaaGreat

namespace Go.Proofs.YthehbckogieimaaGreat
open Go.RowKit
open Go.Proofs
open Go.Proofs.Cm (Lv Twr)
attribute [local irreducible] Go.Calls
theorem TowAt.addG {F:Nat→Prop} {L n:Nat} {w:World} {T:Twr} {V:Nat→LV} (h:TowAt F L n w T V) {i o:Nat} (hi:i<n) (ho:o=i*194) {r:List Nat} {rv:Value} (hr:FP F w rv r) (hs:∃ a m c,rv=.slice a m c) (hl:(T i).gens.length<1000000) (ty:TypeId) :
  ∃ a c X,(Builtin.append_ #[22,22] ty #[(V i).g,.slice (some ⟨w.heap.size,0,none⟩) 1 1]).run Tryz.prog (w.alloc (.cells #[rv] 51))=.ok (.slice a ((T i).gens.length+1) c) X ∧
   X.cell? ⟨L,o,none⟩=some (V i).g∧X.frozen? ⟨L,o,none⟩=false∧∃ V',TowAt F L n (X.setCell ⟨L,o,none⟩ (.slice a ((T i).gens.length+1) c)) (pushG T i r) V'∧KF F w (X.setCell ⟨L,o,none⟩ (.slice a ((T i).gens.length+1) c)):=by
 subst ho;have hv:=h.lv i hi;obtain ⟨a0,m0,c0,rfl⟩:=hs;have hk1:Rg.Kp (fun _=>False) w (w.alloc (.cells #[.slice a0 m0 c0] 51)):=Rg.Kp.of_below ((Below.refl _ _).alloc (Nat.le_refl _) _)
 have hsz:(w.alloc (.cells #[.slice a0 m0 c0] 51)).heap.size=w.heap.size+1:=by simp
 have hv1:=hv.kp hk1 (fun _ _=>id) (fun _ _=>id);obtain ⟨v',X,r1,r2,r3,r4,a,c,rfl⟩:=app_run (P:=Tryz.prog) slPerms ty hv1.gown (Nat.zero_le _) w.heap.size 1 (u:=.slice a0 m0 c0) (by rw [Rg.cellNew]; rfl) rfl hl;have hkX:Rg.Kp (fun k=>(V i).g.ownBlock=some k) w X:=Rg.Kp.trans (M:=fun k=>(V i).g.ownBlock=some k) (hk1.weak fun _=>False.elim) (Rg.Kp.of_grown r3 fun _ e=>e) (fun _ _ e=>e);have hFo:∀ k,F k→¬ (V i).g.ownBlock=some k:=fun k hk e=>(hv.gF k e).1 hk;have hLo:¬ (V i).g.ownBlock=some L:=fun e=>(hv.gF L e).2 rfl
 have hcX:X.cell? ⟨L,i*194,none⟩=some (V i).g:=by
  rw [World.cell?_of_block (w:=w) (a:=⟨L,i*194,none⟩) (hkX.block L h.lt hLo)];exact getG h hi rfl
 have hrow:=rowIs_kp h.row hkX hLo
 refine ⟨a,c,X,r1,hcX,hrow.frozen _,fun j=>if j=i then { V i with g:=.slice a ((T i).gens.length+1) c,us:=(V i).us++[.slice a0 m0 c0] } else V j,?_⟩
 have hnew:∀ k,(Value.slice a ((T i).gens.length+1) c).ownBlock=some k→(V i).g.ownBlock=some k∨k=w.heap.size+1:=fun k e=>by
  rcases r4 with r4 | r4
  ·exact .inl (by rw [← r4]; exact e)
  ·rw [r4] at e; injection e with e; exact .inr (by omega)
 have hres:=put2 (T:=T) (T':=pushG T i r) (V:=V) (V':=fun j=>if j=i then { V i with g:=.slice a ((T i).gens.length+1) c,us:=(V i).us++[.slice a0 m0 c0] } else V j) (x:=.slice a ((T i).gens.length+1) c)
  (fun k hk=>Nat.lt_of_lt_of_le (h.Flt k hk) hkX.size) h.LF hrow (fun j hj hne=>(h.lv j hj).kp hkX hFo (fun k e e2=>h.dist j i hj hi hne k e (.inl e2)))
  (fun a b ha hb hab _ _=>h.dist a b ha hb hab) hi (m:=0) (by omega) rfl (fun j hj=>⟨if_neg hj,if_neg hj⟩) ?_ ?_ ?_
 ·exact ⟨hres.1,Rg.Kp.trans (hkX.weak fun k e hf=>hFo k hf e) hres.2 (fun _ _ e=>e)⟩
 ·intro m' hm'
  simp only [if_true,pushG];unfold cont
  by_cases h0:m'=0
  ·simp [h0]
  by_cases h1:m'=1
  ·simp [h1]
  ·simp [h0,h1]
 ·simp only [if_true,pushG]
  have hF:=hv.kp (M:=fun _=>False) (w':=w) (Rg.Kp.refl _ _) (fun _ _=>id) (fun _ _=>id);have hlt:=hv.lt;have hs2:=fun q x hq hx=>(hv.some_ q x hq hx);refine ⟨?_,?_,?_,?_,hv.oF,?_,fun q x hq hx=>⟨Rg.FI.kp (hs2 q x hq hx).1 hkX hFo,Rg.FI.kp (hs2 q x hq hx).2 hkX hFo⟩,hv.none_⟩
  ·rw [List.length_append]; exact r2
  ·rw [List.map_append]
   exact (hv.gel.kp hkX hFo).app (Rg.FElts.one (Rg.FI.kp hr hkX hFo))
  ·exact rowKp hv.oown hkX (fun k e e2=>hv.go k e e2)
  ·intro k e
   rcases hnew k e with e | e
   ·exact hv.gF k e
   ·exact ⟨fun hf=>by have:=h.Flt k hf; omega,by have:=h.lt; omega⟩
  ·intro k e e2
   rcases hnew k e with e | e
   ·exact hv.go k e e2
   ·have:=hlt k (.inr e2); omega
 ·intro j k hj hne e
  simp only [if_true] at e
  rcases e with e | e
  ·rcases hnew k e with e | e
   ·exact h.dist i j hi hj (Ne.symm hne) k (.inl e)
   ·intro e2; have:=(h.lv j hj).lt k e2; omega
  ·exact h.dist i j hi hj (Ne.symm hne) k (.inr e)
theorem TowAt.addO {F:Nat→Prop} {L n:Nat} {w:World} {T:Twr} {V:Nat→LV} (h:TowAt F L n w T V) {i o:Nat} (hi:i<n) (ho:o=i*194+1) (p:Nat) (hl:(T i).orb.length<1000000) (ty:TypeId) :
  ∃ a c X,(Builtin.append_ #[36,36] ty #[(V i).o,.slice (some ⟨w.heap.size,0,none⟩) 1 1]).run Tryz.prog (w.alloc (.cells #[.int .i64 ((p:Nat):Int)] 3))=.ok (.slice a ((T i).orb.length+1) c) X ∧
   X.cell? ⟨L,o,none⟩=some (V i).o∧X.frozen? ⟨L,o,none⟩=false∧∃ V',TowAt F L n (X.setCell ⟨L,o,none⟩ (.slice a ((T i).orb.length+1) c)) (pushO T i p) V'∧KF F w (X.setCell ⟨L,o,none⟩ (.slice a ((T i).orb.length+1) c)):=by
 subst ho;have hv:=h.lv i hi;have hk1:Rg.Kp (fun _=>False) w (w.alloc (.cells #[.int .i64 ((p:Nat):Int)] 3)):=Rg.Kp.of_below ((Below.refl _ _).alloc (Nat.le_refl _) _)
 have hsz:(w.alloc (.cells #[.int .i64 ((p:Nat):Int)] 3)).heap.size=w.heap.size+1:=by simp
 have hv1:=hv.kp hk1 (fun _ _=>id) (fun _ _=>id);obtain ⟨v',X,r1,r2,r3,r4,a,c,rfl⟩:=app_run (P:=Tryz.prog) slInts ty hv1.oown (Nat.zero_le _) w.heap.size 1 (u:=.int .i64 ((p:Nat):Int)) (by rw [Rg.cellNew]; rfl) rfl hl;have hkX:Rg.Kp (fun k=>(V i).o.ownBlock=some k) w X:=Rg.Kp.trans (M:=fun k=>(V i).o.ownBlock=some k) (hk1.weak fun _=>False.elim) (Rg.Kp.of_grown r3 fun _ e=>e) (fun _ _ e=>e);have hFo:∀ k,F k→¬ (V i).o.ownBlock=some k:=fun k hk e=>(hv.oF k e).1 hk;have hLo:¬ (V i).o.ownBlock=some L:=fun e=>(hv.oF L e).2 rfl
 have hcX:X.cell? ⟨L,i*194+1,none⟩=some (V i).o:=by
  rw [World.cell?_of_block (w:=w) (a:=⟨L,i*194+1,none⟩) (hkX.block L h.lt hLo)];exact getO h hi rfl
 have hrow:=rowIs_kp h.row hkX hLo
 refine ⟨a,c,X,r1,hcX,hrow.frozen _,fun j=>if j=i then { V i with o:=.slice a ((T i).orb.length+1) c } else V j,?_⟩
 have hnew:∀ k,(Value.slice a ((T i).orb.length+1) c).ownBlock=some k→(V i).o.ownBlock=some k∨k=w.heap.size+1:=fun k e=>by
  rcases r4 with r4 | r4
  ·exact .inl (by rw [← r4]; exact e)
  ·rw [r4] at e; injection e with e; exact .inr (by omega)
 have hres:=put2 (T:=T) (T':=pushO T i p) (V:=V) (V':=fun j=>if j=i then { V i with o:=.slice a ((T i).orb.length+1) c } else V j) (x:=.slice a ((T i).orb.length+1) c)
  (fun k hk=>Nat.lt_of_lt_of_le (h.Flt k hk) hkX.size) h.LF hrow (fun j hj hne=>(h.lv j hj).kp hkX hFo (fun k e e2=>h.dist j i hj hi hne k e (.inr e2)))
  (fun a b ha hb hab _ _=>h.dist a b ha hb hab) hi (m:=1) (by omega) rfl (fun j hj=>⟨if_neg hj,if_neg hj⟩) ?_ ?_ ?_
 ·exact ⟨hres.1,Rg.Kp.trans (hkX.weak fun k e hf=>hFo k hf e) hres.2 (fun _ _ e=>e)⟩
 ·intro m' hm'
  simp only [if_true,pushO];unfold cont
  by_cases h0:m'=0
  ·simp [h0]
  by_cases h1:m'=1
  ·simp [h1]
  ·simp [h0,h1]
 ·simp only [if_true,pushO]
  have hF:=hv.kp (M:=fun _=>False) (w':=w) (Rg.Kp.refl _ _) (fun _ _=>id) (fun _ _=>id);have hlt:=hv.lt;have hs2:=fun q x hq hx=>(hv.some_ q x hq hx);refine ⟨?_,hv.gel.kp hkX hFo,?_,hv.gF,?_,?_,fun q x hq hx=>⟨Rg.FI.kp (hs2 q x hq hx).1 hkX hFo,Rg.FI.kp (hs2 q x hq hx).2 hkX hFo⟩,hv.none_⟩
  ·exact rowKp hv.gown hkX (fun k e e2=>hv.go k e2 e)
  ·have e1:(Ma.ofN ((T i).orb++[p])).map (Value.int .i64)=(Ma.ofN (T i).orb).map (Value.int .i64)++[.int .i64 ((p:Nat):Int)]:=by simp [Ma.ofN]
   rw [e1,List.length_append]; exact r2
  ·intro k e
   rcases hnew k e with e | e
   ·exact hv.oF k e
   ·exact ⟨fun hf=>by have:=h.Flt k hf; omega,by have:=h.lt; omega⟩
  ·intro k e e2
   rcases hnew k e2 with e2 | e2
   ·exact hv.go k e e2
   ·have:=hlt k (.inl e); omega
 ·intro j k hj hne e
  simp only [if_true] at e
  rcases e with e | e
  ·exact h.dist i j hi hj (Ne.symm hne) k (.inl e)
  ·rcases hnew k e with e | e
   ·exact h.dist i j hi hj (Ne.symm hne) k (.inr e)
   ·intro e2; have:=(h.lv j hj).lt k e2; omega
theorem lvF0 (b o:Nat) (w:World):(Instr.fieldAt 210 (.pointer (some ⟨b,o,none⟩)) 0).run Tryz.prog w=.ok (.pointer (some ⟨b,o,none⟩)) w:=by kernel_rfl
theorem lvF1 (b o:Nat) (w:World):(Instr.fieldAt 210 (.pointer (some ⟨b,o,none⟩)) 1).run Tryz.prog w=.ok (.pointer (some ⟨b,o+1,none⟩)) w:=by kernel_rfl
theorem lvF2 (b o:Nat) (w:World):(Instr.fieldAt 210 (.pointer (some ⟨b,o,none⟩)) 2).run Tryz.prog w=.ok (.pointer (some ⟨b,o+2,none⟩)) w:=by kernel_rfl
theorem lvF3 (b o:Nat) (w:World):(Instr.fieldAt 210 (.pointer (some ⟨b,o,none⟩)) 3).run Tryz.prog w=.ok (.pointer (some ⟨b,o+66,none⟩)) w:=by kernel_rfl
theorem lvF4 (b o:Nat) (w:World):(Instr.fieldAt 210 (.pointer (some ⟨b,o,none⟩)) 4).run Tryz.prog w=.ok (.pointer (some ⟨b,o+130,none⟩)) w:=by kernel_rfl
theorem towF0 (b:Nat) (w:World):(Instr.fieldAt 202 (.pointer (some ⟨b,0,none⟩)) 0).run Tryz.prog w=.ok (.pointer (some ⟨b,0,none⟩)) w:=by kernel_rfl
theorem towF1 (b:Nat) (w:World):(Instr.fieldAt 202 (.pointer (some ⟨b,0,none⟩)) 1).run Tryz.prog w=.ok (.pointer (some ⟨b,1,none⟩)) w:=by kernel_rfl
theorem szLevel:(Tryz.prog.info? 210).map (·.size)=some 194:=by kernel_rfl
theorem exec_indexZ {o:Oper} {a:Act} {w:World} {t e:TypeId} {z:Nat} (x y:Operand) (ho:o.op=.indexAddr t x y) (hu:Tryz.prog.underlying t=some (.slice e)) (hsz:(Tryz.prog.info? e).map (·.size)=some z) (b of len cap i:Nat) (hx:a.eval x=.slice (some ⟨b,of,none⟩) len cap) (hy:a.eval y=.int .i64 (i:Int)) (hi:i<len) :
  (execOp a.eval o).run Tryz.prog w=.ok (.value (.pointer (some ⟨b,of+i*z,none⟩))) w:=by
 obtain ⟨ie,hie,hs⟩:=Option.map_eq_some_iff.1 hsz;have h1:(0:Int)≤(i:Int)∧(i:Int)<(len:Int):=⟨by omega,by omega⟩
 have hr:(Instr.indexAt t (.slice (some ⟨b,of,none⟩) len cap) (.int .i64 (i:Int))).run Tryz.prog w=.ok (.pointer (some ⟨b,of+i*z,none⟩)) w:=by
  simp [Instr.indexAt,asIntOf,run_underlying hu,sizeOf,typeInfo,hie,hs,h1];rw [if_pos hi];unfold Addr.add
  split
  ·rename_i h0; rw [h0]; rfl
  ·rfl
 unfold execOp;simp only [ho,hx,hy,Sem.run_bind,Sem.run_pure,hr,Result.andThen_ok]
theorem exec_indexZ0 {o:Oper} {a:Act} {w:World} {t e:TypeId} {z:Nat} (x y:Operand) (ho:o.op=.indexAddr t x y) (hu:Tryz.prog.underlying t=some (.slice e)) (hsz:(Tryz.prog.info? e).map (·.size)=some z) (b len cap i:Nat) (hx:a.eval x=.slice (some ⟨b,0,none⟩) len cap) (hy:a.eval y=.int .i64 (i:Int)) (hi:i<len) :
  (execOp a.eval o).run Tryz.prog w=.ok (.value (.pointer (some ⟨b,i*z,none⟩))) w:=by
 have:=exec_indexZ (w:=w) x y ho hu hsz b 0 len cap i hx hy hi
 rwa [Nat.zero_add] at this
theorem chMul_f {F:Nat→Prop} {n:Nat} {v1 v2:Value} {a b:List Nat} {w:World} (h1:FP F w v1 a) (h2:FP F w v2 b) (ga:Cm.Gd n a) (gb:Cm.Gd n b) (hn:1≤n) (hn2:n≤64) :
  Calls Tryz.prog 183 #[v1,v2] w fun e w'=>∃ v,e=.returned v∧FP (Fup F w w') w' v (Ma.mulN a b)∧Below w.heap.size w w':=by
 have e1:=ga.2;have e2:=gb.2;refine (chMul_any v1 v2 a b w h1.np h2.np (fun x hx=>by have:=ga.1.1 x hx; omega) (by omega) (by omega) (by omega)).mono ?_;rintro e w' ⟨v,rfl,hv,hb⟩;exact ⟨v,rfl,FP.new hv,hb⟩
theorem chInv_f {F:Nat→Prop} {n:Nat} {v1:Value} {a:List Nat} {w:World} (h1:FP F w v1 a) (ga:Cm.Gd n a) (hn:1≤n) (hn2:n≤64) :
  Calls Tryz.prog 184 #[v1] w fun e w'=>∃ v,e=.returned v∧FP (Fup F w w') w' v (Ma.invN a)∧Below w.heap.size w w':=by
 have e1:=ga.2;refine (chInv_any v1 a w h1.np ga.1 (by omega) (by omega)).mono ?_;rintro e w' ⟨v,rfl,hv,hb⟩;exact ⟨v,rfl,FP.new hv,hb⟩
theorem chOne_f {F:Nat→Prop} (n:Nat) (w:World) (hn2:n≤64) :
  Calls Tryz.prog 122 #[.int .i64 n] w fun e w'=>∃ v,e=.returned v∧FP (Fup F w w') w' v (Ma.oneN n)∧Below w.heap.size w w':=by
 refine (chOne_any n w (by omega)).mono ?_;rintro e w' ⟨v,rfl,hv,hb⟩;exact ⟨v,rfl,FP.new hv,hb⟩
end Go.Proofs.YthehbckogieimaaGreat

namespace Go.Proofs.YthehbckogieimaaGreat
open Go.RowKit
open Go.Proofs
open Go.Proofs.Cm (Lv Twr trOf)
attribute [local irreducible] Go.Calls
theorem Vmcl0 (args:Array Value) (w:World):(callFunc 183 args).run Tryz.prog w=.ok (.enter 183 args) w:=by kernel_rfl
theorem exec_nilT {o:Oper} {a:Act} {w:World} (x y:Operand) (ho:o.op=.binOp .eql 51 x y 51) (hx:a.eval x=.slice none 0 0) (hy:a.eval y=.slice none 0 0):(execOp a.eval o).run Tryz.prog w=.ok (.value (.bool true)) w:=by
 have h1:(binOp .eql 51 (.slice none 0 0) (.slice none 0 0)).run Tryz.prog w=.ok (.bool true) w:=by kernel_rfl
 have hg:(eqGuard .eql 51 x y (.slice none 0 0) (.slice none 0 0)).run Tryz.prog w=.ok () w:=by
  simp [eqGuard]
 unfold execOp;simp only [ho,hx,hy,Sem.run_bind,Sem.run_pure,hg,h1,Result.andThen_ok]
theorem exec_nilF {o:Oper} {a:Act} {w:World} {ad:Addr} {n c:Nat} (x y:Operand) (ho:o.op=.binOp .eql 51 x y 51) (hx:a.eval x=.slice (some ad) n c) (hy:a.eval y=.slice none 0 0):(execOp a.eval o).run Tryz.prog w=.ok (.value (.bool false)) w:=by
 have h1:(binOp .eql 51 (.slice (some ad) n c) (.slice none 0 0)).run Tryz.prog w=.ok (.bool false) w:=by kernel_rfl
 have hg:(eqGuard .eql 51 x y (.slice (some ad) n c) (.slice none 0 0)).run Tryz.prog w=.ok () w:=by
  simp [eqGuard]
 unfold execOp;simp only [ho,hx,hy,Sem.run_bind,Sem.run_pure,hg,h1,Result.andThen_ok]
theorem TowAt.byS {F:Nat→Prop} {L n:Nat} {w:World} {T:Twr} {V:Nat→LV} (h:TowAt F L n w T V) {i p:Nat} (hi:i<n) (hp:p<64) {u:List Nat} (hu:trOf T i p=some u) (gu:Cm.Gd n u) (hn:1≤n):∃ b o c,(V i).b p=.slice (some ⟨b,o,none⟩) n c∧FP F w (.slice (some ⟨b,o,none⟩) n c) (Ma.invN u):=by
 have h1:=((h.lv i hi).some_ p u hp hu).2;obtain ⟨b,o,c,e,_⟩:=h1.shape (by rw [(Cm.gd_inv gu).2]; exact hn);rw [(Cm.gd_inv gu).2] at e;exact ⟨b,o,c,e,by rw [← e]; exact h1⟩
theorem TowAt.toS {F:Nat→Prop} {L n:Nat} {w:World} {T:Twr} {V:Nat→LV} (h:TowAt F L n w T V) {i p:Nat} (hi:i<n) (hp:p<64) {u:List Nat} (hu:trOf T i p=some u) (gu:Cm.Gd n u) (hn:1≤n):∃ b o c,(V i).t p=.slice (some ⟨b,o,none⟩) n c∧FP F w (.slice (some ⟨b,o,none⟩) n c) u:=by
 have h1:=((h.lv i hi).some_ p u hp hu).1;obtain ⟨b,o,c,e,_⟩:=h1.shape (by rw [gu.2]; exact hn);rw [gu.2] at e;exact ⟨b,o,c,e,by rw [← e]; exact h1⟩
theorem FP.shape' {F:Nat→Prop} {n:Nat} {w:World} {v:Value} {p:List Nat} (h:FP F w v p) (gp:Cm.Gd n p) (hn:1≤n):∃ b o c,v=.slice (some ⟨b,o,none⟩) n c:=by
 obtain ⟨b,o,c,e,_⟩:=h.shape (by rw [gp.2]; exact hn);rw [gp.2] at e;exact ⟨b,o,c,e⟩
theorem FP.ap {F:Nat→Prop} {n:Nat} {w:World} {b o m c:Nat} {p:List Nat} (h:FP F w (.slice (some ⟨b,o,none⟩) m c) p) (gp:Cm.Gd n p) {i:Nat} (hi:i<n):CF F w b (o+i) (.int .i64 ((Cm.ap p i:Nat):Int)):=h.cell (by rw [gp.2]; exact hi)
theorem sift_any {F:Nat→Prop} {L n tb:Nat} {w:World} {T:Twr} {V:Nat→LV} (hT:TowAt F L n w T V) (hc0:CF F w tb 0 (.int .i64 ((n:Nat):Int))) (hc1:CF F w tb 1 (.slice (some ⟨L,0,none⟩) n n)) (hn1:1≤n) (hn2:n≤64)
  {xv:Value} {x:List Nat} {i0:Nat} (hx:FP F w xv x) (gx:Cm.Gd n x) (hi0:i0≤n) (hfx:Cm.Fx i0 x) (hr:Cm.Rp n i0 (trOf T)) :
  Calls Tryz.prog 261 #[.pointer (some ⟨tb,0,none⟩),xv,.int .i64 ((i0:Nat):Int)] w fun e w'=>∃ F' rv,e=.returned (.tuple #[.int .i64 (((Cm.sfP n (trOf T) (n - i0) x).1:Nat):Int),rv])∧KG F w F' w'∧TowAt F' L n w' T V∧FP F' w' rv (Cm.sfP n (trOf T) (n - i0) x).2∧Below w.heap.size w w':=by
 obtain ⟨xb0,xo0,xc0,rfl⟩:=hx.shape' gx hn1;have K:=ι (KG.refl hT.Flt);have HT:=ι hT;have C0:=ι hc0;have C1:=ι hc1;have X:=ι hx;have HR:=ι hr;obtain ⟨A,hA⟩:∃ A,Hid (A=Cm.sfP n (trOf T) (n - i0) x):=⟨_,ι rfl⟩;rw [← hA.out];have KB:=ι (Below.refl w.heap.size w);have hg0:=hc0.cell;have hS0:=ι hA.out.symm;clear hT hc0 hc1 hx hr
 go_enter Tryz.func261,Tryz.ntmps261
 go_wp2
 go_loopw [1,8] (fun yv iv wr=>∃ (i:Nat) (y:List Nat) (F1:Nat→Prop),i0≤i∧i≤n∧iv=.int .i64 i∧Hid (FP F1 wr yv y)∧Hid (TowAt F1 L n wr T V)∧Hid (CF F1 wr tb 0 (.int .i64 ((n:Nat):Int)))∧Hid (CF F1 wr tb 1 (.slice (some ⟨L,0,none⟩) n n))∧Hid (KG F w F1 wr)∧Hid (Below w.heap.size w wr)∧Hid (Cm.Gd n y)∧Hid (Cm.Fx i y)∧Hid (Cm.sfP n (trOf T) (n - i) y=A)) (fun _ iv _=>n - (intOf iv).toNat)
 case atStart=>exact ⟨i0,x,F,Nat.le_refl _,hi0,rfl,X,HT,C0,C1,K,KB,ι gx,ι hfx,hS0⟩
 case round =>
  clear X HT C0 C1 K KB hg0 hS0 hfx gx;obtain ⟨i,y,F,hi1,hi2,rfl,X,HT,C0,C1,K,KB,GY,FY,HS⟩:=hrel;have hg0:=C0.out.cell
  by_cases hin:i<n
  ·have hiN:(i:Int)<(n:Int):=by omega
   obtain ⟨xb,xo,xc,rfl⟩:=X.out.shape' GY.out hn1;have hqn:=Cm.ap_lt GY.out hin;obtain ⟨q,hq⟩:∃ q:Nat,Hid (q=Cm.ap y i):=⟨_,ι rfl⟩;rw [← hq.out] at hqn;have CX:=ι (show CF F wr xb (xo+i) (.int .i64 ((q:Nat):Int)) by rw [hq.out]; exact X.out.ap GY.out hin)
   have hq64:q<64:=by omega
   have HIN:=ι hin
   cases htr:trOf T i q with
   | none =>
    have hby:=((HT.out.lv i hin).none_ q hq64 htr).2;have CB:=ι (show wr.cell? ⟨L,i*194+66+q,none⟩=some (.slice none 0 0) by rw [getBy HT.out hin hq64 (by omega),hby])
    have HE:=ι (show A=(i,y) by
     rw [← HS.out]
     have e1:n - i=(n - i - 1)+1:=by omega
     rw [e1,Cm.sfP_none]
     ·rw [show n - (n - i - 1+1)=i by omega]
     ·rw [show n - (n - i - 1+1)=i by omega,← hq.out]; exact htr)
    have hLlt:=ι HT.out.lt;clear hby htr;go_upto_region 4 with (fail);have hV1:Below wr.heap.size wr wr.drew:=(Below.refl _ _).drew;replace HT:=ι (HT.out.up hV1);replace KB:=ι (Rg.acc KB.out hV1);replace CB:=ι ((hV1.cell (p:=⟨L,i*194+66+q,none⟩) hLlt.out).trans CB.out);replace hLlt:=ι (Nat.lt_of_lt_of_le hLlt.out hV1.size);clear hV1;have hV0:Below wr.heap.size wr wr.drew:=(Below.refl _ _).drew;replace X:=ι (X.out.up hV0);replace C0:=ι (C0.out.up hV0);replace C1:=ι (C1.out.up hV0);replace CX:=ι (CX.out.up hV0);replace K:=ι (K.out.up hV0);generalize Fup F wr wr.drew=F1 at *;clear hV0;refine Rg.Any.begin (S:=Rg.Both 13 (fun _=>True) (fun W=>Below wr.drew.heap.size wr.drew W)) mix ?_;generalize wr.drew=w1 at *;have hS:∀ (l:Array Bool) W,Below w1.heap.size w1 W→Rg.Both 13 (fun _=>True) (fun W=>Below w1.heap.size w1 W) l W:=fun l W h=>⟨.inr trivial,h⟩
    have hI:Below w1.heap.size w1 w1:=Below.refl _ _;refine Rg.tm 0 13 (.pointer (some ⟨tb,0,none⟩)) 19 (hS _ _ hI) ?_;go_frame;refine Rg.tg 1 13 (.pointer (some ⟨tb,0,none⟩)) 20 rfl rfl (.inl ⟨rfl,fun w _=>exec_nil _ rfl rfl⟩) (hS _ _ hI) ?_;go_frame;refine Rg.tg 2 13 (.pointer (some ⟨tb,1,none⟩)) 21 rfl rfl (.inl ⟨rfl,fun w _=>exec_field _ rfl rfl (towF1 _ _)⟩) (hS _ _ hI) ?_;go_frame;refine Rg.tg 3 13 (.slice (some ⟨L,0,none⟩) n n) 22 rfl rfl (Rg.yields_cell _ _ rfl rfl ⟨tb,1,none⟩ rfl (fun W hW=>Rg.run_loadSl _ _ Tryz.underlying200 ((Below.cell (p:=⟨tb,1,none⟩) hW C1.out.lt).trans C1.out.cell))) (hS _ _ hI) ?_;go_frame;refine Rg.tm 4 13 (.int .i64 ((i:Nat):Int)) 23 (hS _ _ hI) ?_;go_frame;refine Rg.tm 5 13 (.slice (some ⟨xb,xo,none⟩) n xc) 24 (hS _ _ hI) ?_;go_frame;refine Rg.tm 6 13 (.int .i64 ((i:Nat):Int)) 25 (hS _ _ hI) ?_;go_frame;refine Rg.tg 7 13 (.pointer (some ⟨xb,xo+i,none⟩)) 26 rfl rfl (Rg.yields_index slPerm _ _ rfl rfl xb (xo) (n) xc (i) rfl rfl HIN.out) (hS _ _ hI) ?_;go_frame
    refine Rg.tg 8 13 (.int .i64 ((q:Nat):Int)) 27 rfl rfl (Rg.yields_cell _ _ rfl rfl ⟨xb,xo+i,none⟩ rfl (fun W hW=>run_loadInt ((Below.cell (p:=⟨xb,xo+i,none⟩) hW CX.out.lt).trans CX.out.cell))) (hS _ _ hI) ?_;go_frame;refine Rg.tg 9 13 (.pointer (some ⟨L,i*194,none⟩)) 28 rfl rfl (.inl ⟨rfl,fun w _=>exec_indexZ0 _ _ rfl Tryz.underlying200 szLevel L (n) (n) (i) rfl rfl HIN.out⟩) (hS _ _ hI) ?_;go_frame;refine Rg.tg 10 13 (.pointer (some ⟨L,i*194+66,none⟩)) 29 rfl rfl (.inl ⟨rfl,fun w _=>exec_field _ rfl rfl (lvF3 _ _ _)⟩) (hS _ _ hI) ?_;go_frame;refine Rg.tg 11 13 (.pointer (some ⟨L,i*194+66+q,none⟩)) 30 rfl rfl (.inl ⟨rfl,fun w _=>exec_indexArr _ _ rfl Tryz.underlying207 szP L (i*194+66) (q) rfl rfl hq64⟩) (hS _ _ hI) ?_;go_frame;refine Rg.tg 12 13 (.slice none 0 0) 31 rfl rfl (Rg.yields_cell _ _ rfl rfl ⟨L,i*194+66+q,none⟩ rfl (fun W hW=>Rg.run_loadSl _ _ Tryz.underlying51 ((Below.cell (p:=⟨L,i*194+66+q,none⟩) hW hLlt.out).trans CB.out))) (hS _ _ hI) ?_;go_frame
    refine Rg.Any.one (i:=13) (by kernel_rfl) (Rg.Any.run (some 9) rfl rfl rfl (Rg.xa (.slice none 0 0) _ rfl rfl) (hS _ _ hI) ?_);go_frame;refine Rg.Any.done (by kernel_rfl) ?_ _;clear hS hI;go_upto_region 5 with (fail);refine wp_region_list ?_;refine Rg.lm 32 (.slice none 0 0) ?_;go_frame;refine Rg.lr 33 (exec_nilT _ _ rfl rfl rfl) ?_;go_frame;go_wp2
    go_ret2
    exact ⟨_,.slice (some ⟨xb,xo,none⟩) n xc,by rw [HE.out]; rfl,K.out,HT.out,by rw [HE.out]; exact X.out,KB.out⟩
   | some u =>
    have gu:=HR.out.gd i q u hi1 hin htr;obtain ⟨bb,bo,bc,hbv,hbp⟩:=HT.out.byS hin hq64 htr gu hn1
    have hHS:Cm.sfP n (trOf T) (n - (i+1)) (Ma.mulN y (Ma.invN u))=A:=by
     rw [← HS.out]
     have e1:n - i=(n - i - 1)+1:=by omega
     rw [e1,Cm.sfP_some (u:=u) (by rw [show n - (n - i - 1+1)=i by omega,← hq.out]; exact htr),show n - i - 1=n - (i+1) by omega]
    obtain ⟨hgy2,hfy2⟩:=Cm.step_fx HR.out hi1 hin GY.out FY.out (by rw [← hq.out]; exact htr);have BP:=ι hbp;have GI:=ι (Cm.gd_inv gu);have HS2:=ι hHS;have GY2:=ι hgy2;have FY2:=ι hfy2;have CB:=ι (show wr.cell? ⟨L,i*194+66+q,none⟩=some (.slice (some ⟨bb,bo,none⟩) n bc) by rw [getBy HT.out hin hq64 (by omega),hbv])
    have hone:=ι (show q=i→Ma.mulN y (Ma.invN u)=y from fun e=>by
     have h1:=HR.out.self i hi1 hin;rw [e,h1] at htr
     cases htr
     rw [Cm.inv_one,Cm.mul_one GY.out])
    have hLlt:=ι HT.out.lt;clear hbv hbp gu hHS hgy2 hfy2 htr HS
    by_cases hqi:q=i
    ·have HY:=ι (hone.out hqi)
     have hqe:(q:Int)=(i:Int):=by omega
     clear hqi hone;go_upto_region 4 with (fail);have hV1:Below wr.heap.size wr wr.drew:=(Below.refl _ _).drew;replace KB:=ι (Rg.acc KB.out hV1);replace CB:=ι ((hV1.cell (p:=⟨L,i*194+66+q,none⟩) hLlt.out).trans CB.out);replace hLlt:=ι (Nat.lt_of_lt_of_le hLlt.out hV1.size);clear hV1;have hV0:Below wr.heap.size wr wr.drew:=(Below.refl _ _).drew;replace X:=ι (X.out.up hV0);replace HT:=ι (HT.out.up hV0);replace C0:=ι (C0.out.up hV0);replace C1:=ι (C1.out.up hV0);replace CX:=ι (CX.out.up hV0);replace BP:=ι (BP.out.up hV0);replace K:=ι (K.out.up hV0);generalize Fup F wr wr.drew=F1 at *;clear hV0;refine Rg.Any.begin (S:=Rg.Both 13 (fun _=>True) (fun W=>Below wr.drew.heap.size wr.drew W)) mix ?_;generalize wr.drew=w1 at *;have hS:∀ (l:Array Bool) W,Below w1.heap.size w1 W→Rg.Both 13 (fun _=>True) (fun W=>Below w1.heap.size w1 W) l W:=fun l W h=>⟨.inr trivial,h⟩
     have hI:Below w1.heap.size w1 w1:=Below.refl _ _;refine Rg.tm 0 13 (.pointer (some ⟨tb,0,none⟩)) 19 (hS _ _ hI) ?_;go_frame;refine Rg.tg 1 13 (.pointer (some ⟨tb,0,none⟩)) 20 rfl rfl (.inl ⟨rfl,fun w _=>exec_nil _ rfl rfl⟩) (hS _ _ hI) ?_;go_frame;refine Rg.tg 2 13 (.pointer (some ⟨tb,1,none⟩)) 21 rfl rfl (.inl ⟨rfl,fun w _=>exec_field _ rfl rfl (towF1 _ _)⟩) (hS _ _ hI) ?_;go_frame;refine Rg.tg 3 13 (.slice (some ⟨L,0,none⟩) n n) 22 rfl rfl (Rg.yields_cell _ _ rfl rfl ⟨tb,1,none⟩ rfl (fun W hW=>Rg.run_loadSl _ _ Tryz.underlying200 ((Below.cell (p:=⟨tb,1,none⟩) hW C1.out.lt).trans C1.out.cell))) (hS _ _ hI) ?_;go_frame;refine Rg.tm 4 13 (.int .i64 ((i:Nat):Int)) 23 (hS _ _ hI) ?_;go_frame;refine Rg.tm 5 13 (.slice (some ⟨xb,xo,none⟩) n xc) 24 (hS _ _ hI) ?_;go_frame;refine Rg.tm 6 13 (.int .i64 ((i:Nat):Int)) 25 (hS _ _ hI) ?_;go_frame;refine Rg.tg 7 13 (.pointer (some ⟨xb,xo+i,none⟩)) 26 rfl rfl (Rg.yields_index slPerm _ _ rfl rfl xb (xo) (n) xc (i) rfl rfl HIN.out) (hS _ _ hI) ?_;go_frame
     refine Rg.tg 8 13 (.int .i64 ((q:Nat):Int)) 27 rfl rfl (Rg.yields_cell _ _ rfl rfl ⟨xb,xo+i,none⟩ rfl (fun W hW=>run_loadInt ((Below.cell (p:=⟨xb,xo+i,none⟩) hW CX.out.lt).trans CX.out.cell))) (hS _ _ hI) ?_;go_frame;refine Rg.tg 9 13 (.pointer (some ⟨L,i*194,none⟩)) 28 rfl rfl (.inl ⟨rfl,fun w _=>exec_indexZ0 _ _ rfl Tryz.underlying200 szLevel L (n) (n) (i) rfl rfl HIN.out⟩) (hS _ _ hI) ?_;go_frame;refine Rg.tg 10 13 (.pointer (some ⟨L,i*194+66,none⟩)) 29 rfl rfl (.inl ⟨rfl,fun w _=>exec_field _ rfl rfl (lvF3 _ _ _)⟩) (hS _ _ hI) ?_;go_frame;refine Rg.tg 11 13 (.pointer (some ⟨L,i*194+66+q,none⟩)) 30 rfl rfl (.inl ⟨rfl,fun w _=>exec_indexArr _ _ rfl Tryz.underlying207 szP L (i*194+66) (q) rfl rfl hq64⟩) (hS _ _ hI) ?_;go_frame;refine Rg.tg 12 13 (.slice (some ⟨bb,bo,none⟩) n bc) 31 rfl rfl (Rg.yields_cell _ _ rfl rfl ⟨L,i*194+66+q,none⟩ rfl (fun W hW=>Rg.run_loadSl _ _ Tryz.underlying51 ((Below.cell (p:=⟨L,i*194+66+q,none⟩) hW hLlt.out).trans CB.out))) (hS _ _ hI) ?_;go_frame
     refine Rg.Any.one (i:=13) (by kernel_rfl) (Rg.Any.run (some 9) rfl rfl rfl (Rg.xa (.slice (some ⟨bb,bo,none⟩) n bc) _ rfl rfl) (hS _ _ hI) ?_);go_frame;refine Rg.Any.done (by kernel_rfl) ?_ _;clear hS hI;go_upto_region 5 with (fail);refine wp_region_list ?_;refine Rg.lm 32 (.slice (some ⟨bb,bo,none⟩) n bc) ?_;go_frame;refine Rg.lr 33 (exec_nilF _ _ rfl rfl rfl) ?_;go_frame;go_upto_region 7 with (fail);refine wp_region_list ?_;refine Rg.lm 36 (.slice (some ⟨xb,xo,none⟩) n xc) ?_;go_frame;refine Rg.lm 37 (.int .i64 ((i:Nat):Int)) ?_;go_frame;refine Rg.lr 38 (exec_indexS slPerm _ _ rfl xb (xo) (n) xc (i) rfl rfl HIN.out) ?_;go_frame;refine Rg.lr 39 (Rg.exec_load (v:=.int .i64 ((q:Nat):Int)) _ _ rfl ⟨xb,xo+i,none⟩ rfl (run_loadInt CX.out.cell)) ?_;go_frame;refine Rg.lm 40 (.int .i64 ((i:Nat):Int)) ?_;go_frame;refine Rg.lr 41 (exec_bin (R:=.bool false) .neq _ _ _ rfl rfl rfl (b_neqB _ (decide_eq_false (by omega)))) ?_;go_frame
     have hg0:=C0.out.cell;go_wp2
     go_roundw
     case rel=>exact ⟨i+1,y,_,by omega,by omega,by go_num,X,HT,C0,C1,K,KB,GY,ι (by have:=FY2.out; rwa [HY.out] at this),ι (by have:=HS2.out; rwa [HY.out] at this)⟩
     case measure=>simp [intOf]; omega
    ·have hqe:¬ (q:Int)=(i:Int):=by omega
     clear hqi hone;go_upto_region 4 with (fail);have hV1:Below wr.heap.size wr wr.drew:=(Below.refl _ _).drew;replace KB:=ι (Rg.acc KB.out hV1);replace CB:=ι ((hV1.cell (p:=⟨L,i*194+66+q,none⟩) hLlt.out).trans CB.out);replace hLlt:=ι (Nat.lt_of_lt_of_le hLlt.out hV1.size);clear hV1;have hV0:Below wr.heap.size wr wr.drew:=(Below.refl _ _).drew;replace X:=ι (X.out.up hV0);replace HT:=ι (HT.out.up hV0);replace C0:=ι (C0.out.up hV0);replace C1:=ι (C1.out.up hV0);replace CX:=ι (CX.out.up hV0);replace BP:=ι (BP.out.up hV0);replace K:=ι (K.out.up hV0);generalize Fup F wr wr.drew=F1 at *;clear hV0;refine Rg.Any.begin (S:=Rg.Both 13 (fun _=>True) (fun W=>Below wr.drew.heap.size wr.drew W)) mix ?_;generalize wr.drew=w1 at *;have hS:∀ (l:Array Bool) W,Below w1.heap.size w1 W→Rg.Both 13 (fun _=>True) (fun W=>Below w1.heap.size w1 W) l W:=fun l W h=>⟨.inr trivial,h⟩
     have hI:Below w1.heap.size w1 w1:=Below.refl _ _;refine Rg.tm 0 13 (.pointer (some ⟨tb,0,none⟩)) 19 (hS _ _ hI) ?_;go_frame;refine Rg.tg 1 13 (.pointer (some ⟨tb,0,none⟩)) 20 rfl rfl (.inl ⟨rfl,fun w _=>exec_nil _ rfl rfl⟩) (hS _ _ hI) ?_;go_frame;refine Rg.tg 2 13 (.pointer (some ⟨tb,1,none⟩)) 21 rfl rfl (.inl ⟨rfl,fun w _=>exec_field _ rfl rfl (towF1 _ _)⟩) (hS _ _ hI) ?_;go_frame;refine Rg.tg 3 13 (.slice (some ⟨L,0,none⟩) n n) 22 rfl rfl (Rg.yields_cell _ _ rfl rfl ⟨tb,1,none⟩ rfl (fun W hW=>Rg.run_loadSl _ _ Tryz.underlying200 ((Below.cell (p:=⟨tb,1,none⟩) hW C1.out.lt).trans C1.out.cell))) (hS _ _ hI) ?_;go_frame;refine Rg.tm 4 13 (.int .i64 ((i:Nat):Int)) 23 (hS _ _ hI) ?_;go_frame;refine Rg.tm 5 13 (.slice (some ⟨xb,xo,none⟩) n xc) 24 (hS _ _ hI) ?_;go_frame;refine Rg.tm 6 13 (.int .i64 ((i:Nat):Int)) 25 (hS _ _ hI) ?_;go_frame;refine Rg.tg 7 13 (.pointer (some ⟨xb,xo+i,none⟩)) 26 rfl rfl (Rg.yields_index slPerm _ _ rfl rfl xb (xo) (n) xc (i) rfl rfl HIN.out) (hS _ _ hI) ?_;go_frame
     refine Rg.tg 8 13 (.int .i64 ((q:Nat):Int)) 27 rfl rfl (Rg.yields_cell _ _ rfl rfl ⟨xb,xo+i,none⟩ rfl (fun W hW=>run_loadInt ((Below.cell (p:=⟨xb,xo+i,none⟩) hW CX.out.lt).trans CX.out.cell))) (hS _ _ hI) ?_;go_frame;refine Rg.tg 9 13 (.pointer (some ⟨L,i*194,none⟩)) 28 rfl rfl (.inl ⟨rfl,fun w _=>exec_indexZ0 _ _ rfl Tryz.underlying200 szLevel L (n) (n) (i) rfl rfl HIN.out⟩) (hS _ _ hI) ?_;go_frame;refine Rg.tg 10 13 (.pointer (some ⟨L,i*194+66,none⟩)) 29 rfl rfl (.inl ⟨rfl,fun w _=>exec_field _ rfl rfl (lvF3 _ _ _)⟩) (hS _ _ hI) ?_;go_frame;refine Rg.tg 11 13 (.pointer (some ⟨L,i*194+66+q,none⟩)) 30 rfl rfl (.inl ⟨rfl,fun w _=>exec_indexArr _ _ rfl Tryz.underlying207 szP L (i*194+66) (q) rfl rfl hq64⟩) (hS _ _ hI) ?_;go_frame;refine Rg.tg 12 13 (.slice (some ⟨bb,bo,none⟩) n bc) 31 rfl rfl (Rg.yields_cell _ _ rfl rfl ⟨L,i*194+66+q,none⟩ rfl (fun W hW=>Rg.run_loadSl _ _ Tryz.underlying51 ((Below.cell (p:=⟨L,i*194+66+q,none⟩) hW hLlt.out).trans CB.out))) (hS _ _ hI) ?_;go_frame
     refine Rg.Any.one (i:=13) (by kernel_rfl) (Rg.Any.run (some 9) rfl rfl rfl (Rg.xa (.slice (some ⟨bb,bo,none⟩) n bc) _ rfl rfl) (hS _ _ hI) ?_);go_frame;refine Rg.Any.done (by kernel_rfl) ?_ _;clear hS hI;go_upto_region 5 with (fail);refine wp_region_list ?_;refine Rg.lm 32 (.slice (some ⟨bb,bo,none⟩) n bc) ?_;go_frame;refine Rg.lr 33 (exec_nilF _ _ rfl rfl rfl) ?_;go_frame;go_upto_region 7 with (fail);refine wp_region_list ?_;refine Rg.lm 36 (.slice (some ⟨xb,xo,none⟩) n xc) ?_;go_frame;refine Rg.lm 37 (.int .i64 ((i:Nat):Int)) ?_;go_frame;refine Rg.lr 38 (exec_indexS slPerm _ _ rfl xb (xo) (n) xc (i) rfl rfl HIN.out) ?_;go_frame;refine Rg.lr 39 (Rg.exec_load (v:=.int .i64 ((q:Nat):Int)) _ _ rfl ⟨xb,xo+i,none⟩ rfl (run_loadInt CX.out.cell)) ?_;go_frame;refine Rg.lm 40 (.int .i64 ((i:Nat):Int)) ?_;go_frame;refine Rg.lr 41 (exec_bin (R:=.bool true) .neq _ _ _ rfl rfl rfl (b_neqB _ (decide_eq_true (by omega)))) ?_;go_frame
     clear hg0;go_upto_region 8 with (fail);refine wp_region_list ?_;refine Rg.lm 42 (.slice (some ⟨xb,xo,none⟩) n xc) ?_;go_frame;refine Rg.lm 43 (.slice (some ⟨bb,bo,none⟩) n bc) ?_;go_frame;refine list_ask (some 44) rfl rfl _ _ (exec_fn 183 _ _ _ rfl rfl rfl (Vmcl0 _ _)) ?_;refine (chMul_f X.out BP.out GY.out GI.out hn1 hn2).mono ?_;rintro e1 w2 ⟨mv,rfl,hmv,hb⟩;replace KB:=ι (Rg.acc KB.out hb);refine ⟨_,rfl,?_⟩;go_frame;replace X:=ι (X.out.up hb);replace HT:=ι (HT.out.up hb);replace C0:=ι (C0.out.up hb);replace C1:=ι (C1.out.up hb);replace CX:=ι (CX.out.up hb);replace BP:=ι (BP.out.up hb);replace K:=ι (K.out.up hb);have MV:=ι hmv;generalize Fup F1 w1 w2=F2 at *;clear hb;refine Rg.la 1 (mv) ?_;go_frame;have hg0:=C0.out.cell;go_wp2
     go_roundw
     case rel=>exact ⟨i+1,_,_,by omega,by omega,by go_num,MV,HT,C0,C1,K,KB,GY2,FY2,HS2⟩
     case measure=>simp [intOf]; omega
  ·obtain rfl:i=n:=by omega
   have HE:=ι (show A=(i,y) by rw [← HS.out,Nat.sub_self]; rfl);clear HS;go_wp2
   go_ret2
   exact ⟨_,u1,by rw [HE.out]; rfl,K.out,HT.out,by rw [HE.out]; exact X.out,KB.out⟩
end Go.Proofs.YthehbckogieimaaGreat

namespace Go.Proofs.Cm
open Go.Proofs
def Full (n:Nat) (T:Twr) (j:Nat):Prop:=Lvl n T j∧Cmp T j∧(T j).gens.length≤pot n T j
structure CInv (n i:Nat) (T T1:Twr):Prop where
 ext:Ext T T1
 low:∀ j,j<i→T1 j=T j
 gens:(T1 i).gens=(T i).gens
 up:∀ j,i<j→j<n→Full n T1 j
 lvl:Lvl n T1 i
def Done (T:Twr) (i k:Nat):Prop:=∀ m (h:m<(T i).orb.length),m<k→(T i).tried (T i).orb[m]=(T i).gens.length
theorem CInv.refl {n i:Nat} {T:Twr} (h:Lvl n T i) (hu:∀ j,i<j→j<n→Full n T j):CInv n i T T:=⟨Ext.refl T,fun _ _=>rfl,rfl,hu,h⟩
theorem CInv.all {n i:Nat} {T T1:Twr} (h:CInv n i T T1):∀ j,i≤j→j<n→Lvl n T1 j:=fun j h1 h2=>by
 by_cases e:j=i
 ·subst e; exact h.lvl
 ·exact (h.up j (by omega) h2).1
theorem Done.cmp {n i:Nat} {T:Twr} (h:Done T i (T i).orb.length) (hl:Lvl n T i):Cmp T i:=fun q u hu=>by
 obtain ⟨m,hm,rfl⟩:=List.getElem_of_mem ((hl.orb q).2 ⟨u,hu⟩);exact h m hm hm
theorem Full.ext {n:Nat} {T T':Twr} {j:Nat} (h:Full n T j) (hx:Ext T T') (e:T' j=T j) (e2:j+1<n→T' (j+1)=T (j+1)):Full n T' j:=by
 obtain ⟨h1,h2,h3⟩:=h;refine ⟨h1.ext e hx fun h0 s hs=>?_,h2.ext e,by rw [e]; exact Nat.le_trans h3 (pot_mono hx j)⟩;rw [e2 h0] at hs;exact h1.low h0 s hs
theorem CInv.found {n i k:Nat} {T T1:Twr} (h:CInv n i T T1) (hd:Done T1 i k) (hin:i<n) {q:Nat} {s uq:List Nat} (hk:(T1 i).tried q<(T1 i).gens.length) (hs:(T1 i).gens[(T1 i).tried q]=s) (huq:(T1 i).rep q=some uq) (hp:(T1 i).rep (ap s q)=none)
  (hkq:∃ h:k<(T1 i).orb.length,(T1 i).orb[k]=q) :
  CInv n i T (find (tick T1 i q) i (ap s q) (Ma.mulN uq s))∧Done (find (tick T1 i q) i (ap s q) (Ma.mulN uq s)) i k∧((find (tick T1 i q) i (ap s q) (Ma.mulN uq s) i).tried q=(T1 i).tried q+1)∧(find (tick T1 i q) i (ap s q) (Ma.mulN uq s) i).gens=(T1 i).gens ∧
   ∃ h:k<(find (tick T1 i q) i (ap s q) (Ma.mulN uq s) i).orb.length,(find (tick T1 i q) i (ap s q) (Ma.mulN uq s) i).orb[k]=q:=by
 have hx:Ext T1 (find (tick T1 i q) i (ap s q) (Ma.mulN uq s)):=(tick_ext T1 i q).trans (find_ext (by rw [tick_at]; exact hp))
 have ne:∀ j,j≠i→find (tick T1 i q) i (ap s q) (Ma.mulN uq s) j=T1 j:=fun j hj=>by rw [find_ne hj,tick_ne hj]
 have ei:find (tick T1 i q) i (ap s q) (Ma.mulN uq s) i={ gens:=(T1 i).gens,orb:=(T1 i).orb++[ap s q],rep:=fun z=>if z=ap s q then some (Ma.mulN uq s) else (T1 i).rep z,tried:=fun p=>if p=q then (T1 i).tried p+1 else (T1 i).tried p }:=by rw [find_at',tick_at]
 obtain ⟨hko,hkq⟩:=hkq;refine ⟨⟨h.ext.trans hx,fun j hj=>by rw [ne j (by omega)]; exact h.low j hj,by rw [ei]; exact h.gens,fun j h1 h2=>(h.up j h1 h2).ext hx (ne j (by omega)) (fun _=>ne _ (by omega)),find_lvl h.all hin hk hs huq hp⟩,?_,by rw [ei]; simp,by rw [ei],?_⟩
 ·intro m hm hmk
  have hm':m<(T1 i).orb.length:=by omega
  have e1:(find (tick T1 i q) i (ap s q) (Ma.mulN uq s) i).orb[m]=(T1 i).orb[m]:=by simp only [ei]; rw [List.getElem_append_left hm']
  rw [e1]
  have hne:(T1 i).orb[m]≠q:=by
   rw [← hkq];intro e;have:=(List.getElem_inj h.lvl.nd).1 e;omega
  simp only [ei];rw [if_neg hne];exact hd m hm' hmk
 ·have hk2:k<((T1 i).orb++[ap s q]).length:=by simp; omega
  refine ⟨by rw [ei]; exact hk2,?_⟩;simp only [ei];rw [List.getElem_append_left hko]; exact hkq
theorem CInv.ticked {n i k:Nat} {T T1 T4:Twr} (h:CInv n i T T1) (hd:Done T1 i k) {q:Nat} {s uq v:List Nat} (hk:(T1 i).tried q<(T1 i).gens.length) (hs:(T1 i).gens[(T1 i).tried q]=s) (huq:(T1 i).rep q=some uq) (hv:(T1 i).rep (ap s q)=some v)
  (hkq:∃ h:k<(T1 i).orb.length,(T1 i).orb[k]=q) (hx:Ext (tick T1 i q) T4) (he:∀ j,j<i+1→T4 j=tick T1 i q j) (hu:∀ j,i<j→j<n→Full n T4 j)
  (hlow:i+1<n→∀ s∈(T4 (i+1)).gens,Gr n (·∈(T1 i).gens) s) (hsd:Sd n (trOf T4) (n - (i+1)) (Ma.mulN (Ma.mulN uq s) (Ma.invN v))) :
  CInv n i T T4∧Done T4 i k∧(T4 i).tried q=(T1 i).tried q+1∧(T4 i).gens=(T1 i).gens∧∃ h:k<(T4 i).orb.length,(T4 i).orb[k]=q:=by
 have hx1:=(tick_ext T1 i q).trans hx;have ei:=(he i (by omega)).trans (tick_at T1 i q);obtain ⟨hko,hkq⟩:=hkq;refine ⟨⟨h.ext.trans hx1,fun j hj=>by rw [he j (by omega),tick_ne (by omega)]; exact h.low j hj,by rw [ei]; exact h.gens,hu,tick_lvl h.lvl hk hs huq (he i (by omega)) hx1 hlow hv hsd⟩,?_,by rw [ei]; simp,by rw [ei],?_⟩
 ·intro m hm hmk
  have hm':m<(T1 i).orb.length:=by rw [ei] at hm; exact hm
  have hne:(T1 i).orb[m]≠q:=by
   rw [← hkq];intro e;have:=(List.getElem_inj h.lvl.nd).1 e;omega
  simp only [ei];rw [if_neg hne];exact hd m hm' hmk
 ·refine ⟨by rw [ei]; exact hko,?_⟩
  simp only [ei]; exact hkq
theorem schr_ok {n i q:Nat} {T:Twr} (h:Lvl n T i) (hin:i<n) {s uq v:List Nat} (hs:s∈(T i).gens) (huq:(T i).rep q=some uq) (hv:(T i).rep (ap s q)=some v) :
  Gd n (Ma.mulN uq s)∧Gd n v∧ap (Ma.mulN uq s) i=ap s q∧Gd n (Ma.mulN (Ma.mulN uq s) (Ma.invN v))∧Fx (i+1) (Ma.mulN (Ma.mulN uq s) (Ma.invN v))∧Gr n (·∈(T i).gens) (Ma.mulN (Ma.mulN uq s) (Ma.invN v)):=by
 have gs:=h.ggd s hs;have gu:=h.tgd q uq huq;have gv:=h.tgd _ v hv;have gy:=gd_mul gu gs
 have ay:ap (Ma.mulN uq s) i=ap s q:=by rw [ap_mul gu hin,h.tat q uq huq]
 have fy:Fx i (Ma.mulN uq s):=Fx.mul gu (by omega) (h.tfx q uq huq) (h.gfx s hs);refine ⟨gy,gv,ay,gd_mul gy (gd_inv gv),fun j hj=>?_,.mul _ _ (.mul _ _ (h.tgr q uq huq) (.gen _ hs)) (.inv _ (h.tgr _ v hv))⟩;rw [ap_mul gy (by omega)]
 by_cases e:j=i
 ·subst e
  rw [ay,← h.tat _ v hv];exact ap_inv gv hin
 ·rw [fy j (by omega)]
  exact Fx.inv gv (by omega) (h.tfx _ v hv) j (by omega)
structure Added (n i:Nat) (T T':Twr) (x:List Nat):Prop where
 ext:Ext T T'
 low:∀ j,j<i→T' j=T j
 full:∀ j,i≤j→j<n→Full n T' j
 sd:Sd n (trOf T') (n - i) x
 gens:∀ H:List Nat→Prop,IsG n H→(∀ s∈(T i).gens,H s)→H x→∀ s∈(T' i).gens,H s
theorem Added.same {n i:Nat} {T:Twr} {x:List Nat} (hf:∀ j,i≤j→j<n→Full n T j) (hi:i<n) (gx:Gd n x) (fx:Fx i x) (h:(sfP n (trOf T) (n - i) x).1=n):Added n i T T x:=by
 have hr:Rp n i (trOf T):=Lvl.rp fun j a b=>(hf j a b).1;obtain ⟨_,_,g,f,_⟩:=sfP_all hr (d:=n - i) (x:=x) (by omega) (by omega) gx (by rw [show n - (n - i)=i by omega]; exact fx);rw [h] at f;refine ⟨Ext.refl T,fun _ _=>rfl,hf,?_,fun H _ hs _=>hs⟩;refine sfP_back (tr:=trOf T) (by omega) (fun _ _ _ _ e=>e) ?_;rw [h,Nat.sub_self];exact Fx.all g f
structure AInv (n i at_ k:Nat) (T T1:Twr) (r:List Nat):Prop where
 ext:Ext T T1
 low:∀ j,j<i→T1 j=T j
 put:∀ j,i≤j→j<k→T1 j=putG T i at_ r j
 full:∀ j,k≤j→j<n→Full n T1 j
 genk:k≤at_→(T1 k).gens=(T k).gens++[r]
 tail:k=at_+1→∀ j,at_<j→T1 j=T j
 memr:r∈(T1 at_).gens
 more:k≤at_→(T at_).orb.length<(T1 at_).orb.length
theorem AInv.start {n i at_:Nat} {T:Twr} {r:List Nat} (hf:∀ j,i≤j→j<n→Full n T j) (hi:i≤at_):AInv n i at_ (at_+1) T (putG T i at_ r) r :=
 ⟨putG_ext _ _ _ _,fun j hj=>putG_out (by omega),fun _ _ _=>rfl,fun j h1 h2=>(hf j (by omega) h2).ext (putG_ext T i at_ r) (putG_out (by omega)) (fun _=>putG_out (by omega)),fun h=>by omega,fun _ j hj=>putG_out (by omega),
  by rw [putG_in ⟨hi,Nat.le_refl _⟩]; exact List.mem_append_right _ (List.mem_singleton.2 rfl),fun h=>by omega⟩
theorem AInv.lvl {n i at_ k:Nat} {T T1:Twr} {r:List Nat} (h:AInv n i at_ (k+1) T T1 r) (hf:∀ j,i≤j→j<n→Full n T j) (hi:i≤k) (hk:k≤at_) (ha:at_<n) (gr:Gd n r) (fr:Fx at_ r):Lvl n T1 k:=by
 have h1:=putG_lvl (hf k hi (by omega)).1 hi gr fr;have e0:=h.put k hi (by omega);refine h1.ext0 e0 (fun j p u e=>?_) fun h0 s hs=>?_
 ·have:trOf (putG T i at_ r) j p=some u:=e
  rw [putG_to] at this;exact h.ext.rep j p u this
 ·by_cases e:k+1≤at_
  ·rw [h.genk e] at hs
   have hp:=h1.low h0 s;rw [putG_in (j:=k+1) ⟨by omega,e⟩] at hp;exact hp hs
  ·have e2:k+1=at_+1:=by omega
   rw [h.tail e2 (k+1) (by omega)] at hs;have hp:=h1.low h0 s;rw [putG_out (j:=k+1) (by omega)] at hp;exact hp hs
theorem AInv.step {n i at_ k:Nat} {T T1 T2:Twr} {r:List Nat} (h:AInv n i at_ (k+1) T T1 r) (hf:∀ j,i≤j→j<n→Full n T j) (hi:i≤k) (hk:k≤at_) (ha:at_<n) (hp:(T at_).rep (ap r at_)=none) (hc:CInv n k T1 T2) (hcm:Cmp T2 k):AInv n i at_ k T T2 r:=by
 have hx:=h.ext.trans hc.ext
 have hg:(T2 k).gens=(T k).gens++[r]:=by rw [hc.gens,h.put k hi (by omega),putG_in ⟨hi,hk⟩]
 have hm:=hc.ext.gens at_ r h.memr
 have hlt:(T at_).orb.length<(T2 at_).orb.length:=by
  by_cases e:k=at_
  ·subst e
   have h0:=(hf k hi ha).1;have hl:=hc.lvl;have hself:=hl.self;obtain ⟨m,hm1,hm2⟩:=List.getElem_of_mem hm;obtain ⟨v,hv,_⟩:=hl.pr k _ m hm1 hself (by rw [hcm k _ hself]; exact hm1);rw [hm2] at hv;have hin:=(hl.orb (ap r k)).2 ⟨v,hv⟩
   have hnin:ap r k∉(T k).orb:=fun hh=>by
    obtain ⟨u,hu⟩:=(h0.orb _).1 hh;rw [hp] at hu; cases hu
   have hnd:(ap r k :: (T k).orb).Nodup:=List.nodup_cons.2 ⟨hnin,h0.nd⟩
   have:=List.Nodup.length_le_of_subset hnd (l₂:=(T2 k).orb) (fun z hz=>by
    rcases List.mem_cons.1 hz with rfl | hz
    ·exact hin
    ·obtain ⟨u,hu⟩:=(h0.orb z).1 hz
     exact (hl.orb z).2 ⟨u,hx.rep k z u hu⟩)
   simp at this; omega
  ·exact Nat.lt_of_lt_of_le (h.more (by omega)) (hc.ext.orb at_)
 refine ⟨hx,fun j hj=>by rw [hc.low j (by omega)]; exact h.low j hj,fun j h1 h2=>by rw [hc.low j h2]; exact h.put j h1 (by omega),fun j h1 h2=>?_,fun _=>hg,fun e=>by omega,hm,fun _=>hlt⟩
 by_cases e:j=k
 ·subst e
  refine ⟨hc.lvl,hcm,?_⟩;have:=(hf j hi h2).2.2;have h3:=pot_more (n:=n) hx ha hk hlt;rw [hg,List.length_append,List.length_singleton];omega
 ·exact hc.up j (by omega) h2
theorem AInv.up {n i at_ k:Nat} {T T1:Twr} {r:List Nat} (h:AInv n i at_ (k+1) T T1 r):∀ j,k<j→j<n→Full n T1 j:=fun j h1 h2=>h.full j (by omega) h2
theorem AInv.added {n i:Nat} {T T1:Twr} {x:List Nat} (hf:∀ j,i≤j→j<n→Full n T j) (hi:i<n) (gx:Gd n x) (fx:Fx i x) (h:AInv n i (sfP n (trOf T) (n - i) x).1 i T T1 (sfP n (trOf T) (n - i) x).2) (ha:(sfP n (trOf T) (n - i) x).1<n):Added n i T T1 x:=by
 have hr:Rp n i (trOf T):=Lvl.rp fun j a b=>(hf j a b).1;obtain ⟨_,hge,gr,fr,_⟩:=sfP_all hr (d:=n - i) (x:=x) (by omega) (by omega) gx (by rw [show n - (n - i)=i by omega]; exact fx);rw [show n - (n - i)=i by omega] at hge;refine ⟨h.ext,h.low,h.full,?_,fun H hH hs hx s hs2=>?_⟩
 ·refine sfP_back (tr:=trOf T) (by omega) (fun j p u _ e=>h.ext.rep j p u e) ?_
  exact Lvl.sd (fun j h1 h2=>⟨(h.full j (by omega) h2).1,(h.full j (by omega) h2).2.1⟩) ha (.gen _ h.memr)
 ·rw [h.genk hge] at hs2
  rcases List.mem_append.1 hs2 with hs2 | hs2
  ·exact hs s hs2
  ·rw [List.mem_singleton] at hs2
   subst hs2;refine sfP_mem hH (by omega) (fun j p u h1 h2 hu=>?_) hx;have hT:Tow n i (fun j s=>s∈(T j).gens) (trOf T):=Lvl.tow fun j a b=>⟨(hf j a b).1,(hf j a b).2.1⟩;have h3:=hT.mem j p u (by omega) h2 hu;have h4:=hT.sub (i:=i) (Nat.le_refl _) (k:=j - i) (by omega) (x:=u) (by rwa [show i+(j - i)=j by omega]);exact Gr.sub hH hs h4
end Go.Proofs.Cm
