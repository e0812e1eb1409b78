/- Lemmas and contracts on the way to the statement; no condition of their own beyond those written. -/
import Derived.Test.YtdnmmibchbceeaaGreatXBctoBj
import Derived.RangeFuncWrites
import Derived.RangeFuncNested
import Derived.RangeFuncBox
import Derived.RangeFuncLeaves
import Derived.Shelf.Abstract
import Derived.OwnWalkIn
import Derived.TacticsInMore
import Derived.LoopNIn
import Derived.LoopIn
import Derived.Maps.AppendAt
import Derived.Sort.CutIn
import Derived.Deep.CutRange
import Derived.Deep.CutBlock
import Derived.IntWalk
import Derived.Great.BuildSlice
import Derived.ArgAppend
import Derived.Laws.CopyOwn
import Derived.StillTailTactics
import Derived.Deep.MidRow
import Derived.WalkSpells
import Derived.WalkLawsBesides
import Derived.OwnWalk
import Derived.OrdersHeld
import Derived.Deep.OwnRows
import Derived.WalkKit
import Derived.Lib.Hide
import Derived.Laws.OwnMore
import Derived.Test.YtdnmmibchbceeaaGreatProg
import Derived.Outline
import Derived.Deep.DeepFit
import Derived.BigQuiet
import Derived.Deep.QuietTactic
import Derived.Sort.OwnSortedInts
import Derived.WideMake
import Derived.MapKept
import Derived.ChangeMaps5
import Derived.Shelf.Sort.Plain
import Derived.Lib.ConvBytes
import Derived.ChangeKeysEq
import Derived.Laws.Cells
import Derived.Laws.Rows
import Derived.Laws.Tables
import Derived.Deep.WholeRow
import Derived.OrdersIn
import Derived.TacticsIn
import Derived.Deep.LoopGhost
import Derived.Lib.SlicesSearch
import Derived.Stop.BytesEq
import Derived.Shelf.SlSortCmp.Whole1
import Derived.Ground.SlsfProg
import Derived.Lib.SmallJoins
import Derived.Deep.Matrix
set_option linter.unusedVariables false
set_option linter.unusedSimpArgs false
set_option maxRecDepth 100000
set_option maxHeartbeats 8000000
namespace Go.Proofs.YtdnmmibchbceeaaGreat
open Go.RowKit
open Go.Proofs
open Go.Proofs.Ob
open Go.Sort
open Go.Proofs.Cm (Gd Gr IsChain ap)
attribute [local irreducible] Go.Calls Go.wpList
theorem CompareP_any (v1 v2:Value) (l1 l2:List Int) (w:World) (h1:Rg.Ints w v1 l1) (h2:Rg.Ints w v2 l2) :
  Calls Tryz.prog 83 #[v1,v2] w fun e w'=>e=.returned (.int .i64 (cmpL l1 l2))∧w'=w:=by
 obtain ⟨a1,c1,rfl,n1,m1,_,k1⟩:=h1.shape;obtain ⟨a2,c2,rfl,n2,m2,_,k2⟩:=h2.shape;clear h1 h2;have K1:=ι k1;have K2:=ι k2;clear k1 k2
 go_enter Tryz.func83,Tryz.ntmps83
 go_wp2
 go_loopw [11] (fun v wr=>∃ i:Nat,v=.int .i64 i∧i≤l1.length∧i≤l2.length∧Hid (w=wr)∧Hid (cmpL (l1.drop i) (l2.drop i)=cmpL l1 l2)) (fun v _=>l1.length - (intOf v).toNat)
 case atStart=>exact ⟨0,rfl,by omega,by omega,rfl,rfl⟩
 case round =>
  obtain ⟨i,rfl,hi,hi2,hw,hs⟩:=hrel;have hw2:=hw.out;subst hw2;clear hw
  by_cases hlt:i<l1.length
  ·by_cases hlt2:i<l2.length
   ·obtain ⟨b1,o1,rfl,hb1,d1⟩:=K1.out (by omega)
    obtain ⟨b2,o2,rfl,hb2,d2⟩:=K2.out (by omega);have x1:=d1 i hlt;have x2:=d2 i hlt2;have hd:=cmpL_drop hlt hlt2;generalize l1[i]=x at *;generalize l2[i]=y at *;have Hd:=ι hd;have HC:=ι (cmpCmp_any x y w);clear d1 d2 hd;obtain ⟨c,hc⟩:∃ c,Hid (cmpI x y=c):=⟨_,ι rfl⟩;rw [hc.out] at HC
    have hge:¬ (l2.length:Int)≤(i:Int):=by omega
    by_cases he:c=0
    ·subst he
     go_wp2_with (go_at_call 111; refine HC.out.mono ?_; rintro e w' ⟨rfl,rfl⟩)
     go_roundw
     case rel=>exact ⟨i+1,by go_num,by omega,by omega,by first | exact ι rfl | exact ι trivial,ι (by have:=hs.out; rw [Hd.out,if_pos hc.out] at this; exact this)⟩
     case measure=>simp [intOf]; omega
    ·have HR:=ι (show c=cmpL l1 l2 by rw [← hs.out,Hd.out,if_neg (by rw [hc.out]; exact he),hc.out])
     go_wp2_with (go_at_call 111; refine HC.out.mono ?_; rintro e w' ⟨rfl,rfl⟩)
     go_ret;exact ⟨by rw [← HR.out]; rfl,rfl⟩
   ·have hge:(l2.length:Int)≤(i:Int):=by omega
    obtain ⟨b1,o1,rfl,hb1,d1⟩:=K1.out (by omega);have x1:=d1 i hlt;generalize l1[i]=x at *;clear d1;go_wp2;go_ret;exact ⟨by rw [← hs.out,cmpL_one hlt (by omega)]; rfl,rfl⟩
  ·have he:=cmpL_end (a:=l1) (b:=l2) (k:=i) (by omega) hi2 hi
   have HE:=ι (he.symm.trans hs.out);clear he
   by_cases hl:l1.length<l2.length
   ·have hlN:(l1.length:Int)<(l2.length:Int):=by omega
    go_wp2;go_ret;exact ⟨by rw [← HE.out,if_pos (by omega)]; rfl,rfl⟩
   ·have hlN:¬ (l1.length:Int)<(l2.length:Int):=by omega
    go_wp2;go_ret;exact ⟨by rw [← HE.out,if_neg (by omega)]; rfl,rfl⟩
theorem clCmpP (args:Array Value) (w:World):(callFunc 83 args).run Tryz.prog w=.ok (.enter 83 args) w:=by kernel_rfl
theorem pCmp_any (v1 v2:Value) (a b:List Int) (w:World) (h1:Rg.Ints w v1 a) (h2:Rg.Ints w v2 b) :
  Calls Tryz.prog 53 #[v1,v2] w fun e w'=>e=.returned (.int .i64 (cmpL a b))∧w'=w:=by
 have H1:=ι h1;have H2:=ι h2;clear h1 h2
 go_enter Tryz.func53,Tryz.ntmps53
 go_upto_region 0 with (fail);refine Rg.wl ?_;refine Rg.la 4 (.int .i64 0) ?_;go_frame;go_upto_region 1 with (fail);refine Rg.wl ?_;refine Rg.lm 5 (v1) ?_;go_frame;refine Rg.lm 6 (v2) ?_;go_frame;refine Rg.lk 7 (exec_fn 83 _ _ _ rfl rfl rfl (clCmpP _ _)) ?_;refine (CompareP_any _ _ a b w H1.out H2.out).mono ?_;rintro e1 w1 ⟨rfl,rfl⟩;refine ⟨_,rfl,?_⟩;go_frame;refine Rg.la 4 (.int .i64 (cmpL a b)) ?_;go_frame;go_wp2;go_ret;exact ⟨rfl,rfl⟩
def ElP (F:Nat→Prop) (w:World):={ p:Value × List Int // Rg.FI F w p.1 p.2 }
theorem fi_nilP (F:Nat→Prop) (w:World):Rg.FI F w (.slice none 0 0) []:=⟨none,0,rfl,Nat.le_refl _,Nat.zero_le _,Nat.zero_le _,fun h=>absurd h (Nat.lt_irrefl 0)⟩
instance (F:Nat→Prop) (w:World):Inhabited (ElP F w):=⟨⟨(.slice none 0 0,[]),fi_nilP F w⟩⟩
def elVP {F:Nat→Prop} {w:World} (p:ElP F w):Value:=p.1.1
def elCP {F:Nat→Prop} {w:World} (p q:ElP F w):Int:=cmpL p.1.2 q.1.2
theorem elC_ltP {F:Nat→Prop} {w:World} (p q:ElP F w):ltOf elCP p q=lessL p.1.2 q.1.2:=cmpL_lt _ _
theorem lessL_nP {a b c:List Int} (h:lessL a b=false) (h2:lessL b c=false):lessL a c=false:=by
 by_cases e:a=b
 ·subst e; exact h2
 ·by_cases e2:b=c
  ·subst e2; exact h
  ·have h3:=lessL_trans (lessL_total h2 e2) (lessL_total h e)
   cases h4:lessL a c
   ·rfl
   ·have:=lessL_trans h3 h4
    rw [lessL_irr] at this; cases this
theorem el_swoP (F:Nat→Prop) (w:World):SWO (ltOf (elCP (F:=F) (w:=w))) where
 irrefl x:=by rw [elC_ltP]; exact lessL_irr _
 trans x y z h1 h2:=by rw [elC_ltP] at *; exact lessL_trans h1 h2
 ntrans x y z h1 h2:=by rw [elC_ltP] at *; exact lessL_nP h1 h2
theorem sortWorld_kpP {α:Type} [Inhabited α] {enc:α→Value} {w:World} {blk m:Nat} {dk:Array α} {os:Array Obj}:Rg.Kp (fun z=>z=blk) w (sortWorld enc w blk 0 m dk os):=by
 refine ⟨rfl,rfl,rfl,by simp [sortWorld,grow,putRow,mapBlock,Sort.ahead],fun k hk hn=>?_⟩;unfold sortWorld;rw [heap_grow_old _ _ (by simpa [putRow,mapBlock,Sort.ahead] using hk)];have:blk≠k:=fun e=>hn e.symm;simp [putRow,mapBlock,Sort.ahead,Array.getElem?_modify,this]
theorem clCmpS (args:Array Value) (w:World):(callFunc 53 args).run Tryz.prog w=.ok (.enter 53 args) w:=by kernel_rfl
theorem sortPP {F:Nat→Prop} {w:World} {blk cap:Nat} {us:List Value} {ll:List (List Int)} (hus:Rg.FElts F w us ll) (hF:¬ F blk) (hc:∀ i (h:i<us.length),w.cell? ⟨blk,i,none⟩=some us[i]∧w.frozen? ⟨blk,i,none⟩=false) (hlt:blk<w.heap.size) (hn:ll.length≤1000000) (hcap:ll.length≤cap) (hcm:cap≤maxLen) :
  Calls Tryz.prog 52 #[.slice (some ⟨blk,0,none⟩) ll.length cap,.func (.func 53) #[] #[]] w fun e w'=>e=.returned (.tuple #[])∧∃ ll',ll'.Perm ll∧ll'.Pairwise (fun a b=>lessL b a=false)∧Rg.Rows w' (.slice (some ⟨blk,0,none⟩) ll.length cap) ll'∧Rg.Kp (fun z=>z=blk) w w':=by
 obtain ⟨d,hd,hde⟩:∃ d:Array (ElP F w),d.size=ll.length∧∀ i (h:i<d.size) (h2:i<us.length) (h3:i<ll.length),d[i].1=(us[i],ll[i]) :=
  by
   obtain ⟨hl,he⟩:=hus;exact ⟨Array.ofFn (n:=ll.length) fun i=>⟨(us[i.1]'(by rw [hl]; exact i.2),ll[i.1]),he i.1 _ _⟩,Array.size_ofFn,fun i h h2 h3=>congrArg Subtype.val (Array.getElem_ofFn h)⟩
 have hH:Holds elVP w blk 0 d:=fun j hj=>by
  have hj2:j<us.length:=by rw [hus.1,← hd]; exact hj
  rw [Nat.zero_add,getElem!_pos d j hj]
  have e:elVP d[j]=us[j]:=by unfold elVP; rw [hde j hj hj2 (by omega)]
  rw [e];exact hc j hj2
 have hcmp:CmpLays1 Tryz.prog 53 #[] elVP elCP blk 0 d.size w:=fun m os dk _ x y=>by
  have hk:=sortWorld_kpP (enc:=elVP) (w:=w) (blk:=blk) (m:=m) (dk:=dk) (os:=os);have hx:=(Rg.FI.kp x.2 hk (fun z hz e=>hF (e▸hz))).ints;have hy:=(Rg.FI.kp y.2 hk (fun z hz e=>hF (e▸hz))).ints;refine (pCmp_any _ _ x.1.2 y.1.2 _ hx hy).mono ?_;rintro e w' ⟨h1,h2⟩;exact ⟨h1,0,#[],by rw [h2,grow_empty]; rfl⟩
 have hs:=Tryz.slices_SortFunc52 elVP (fun x=>by obtain ⟨a,c,h,_⟩:=x.2; show x.1.1.oneCell'=true; rw [h]; rfl) elCP (el_swoP F w) 53 #[] blk 0 cap d w clCmpS hcmp hH hlt (by rw [hd]; omega);rw [hd] at hs;refine hs.mono ?_;rintro e w' ⟨rfl,d',m,os,hp,hso,rfl⟩;have hk:=sortWorld_kpP (enc:=elVP) (w:=w) (blk:=blk) (m:=m) (dk:=d') (os:=os)
 have hd':d'.size=ll.length:=by rw [hp.1,hd]
 have hx1:d'.extract 0 ll.length=d':=by rw [← hd']; simp
 have hx2:d.extract 0 ll.length=d:=by rw [← hd]; simp
 have hh:=SW.holds (W:=sortWorld elVP w blk 0 m d' os) ⟨m,os,rfl⟩ hlt hH (by rw [hd',hd]);refine ⟨rfl,d'.toList.map (·.1.2),?_,?_,?_,hk⟩
 ·have h1:=hp.2.2
  rw [hx1,hx2] at h1;have h2:=h1.map (fun p:ElP F w=>p.1.2)
  have e:d.toList.map (fun p:ElP F w=>p.1.2)=ll:=by
   apply List.ext_getElem
   ·simp [hd]
   ·intro i h1 h2
    have h3:i<d.size:=by simpa using h1
    rw [List.getElem_map,Array.getElem_toList,hde i h3 (by rw [hus.1]; exact h2) h2]
  rwa [e] at h2
 ·rw [List.pairwise_iff_getElem]
  intro i j hi hj hij;simp only [List.length_map,Array.length_toList] at hi hj;have:=hso i j (Nat.zero_le _) hij (by rw [← hd']; exact hj);rw [elC_ltP,getElem!_pos d' j hj,getElem!_pos d' i hi] at this
  simpa using this
 ·refine ⟨d'.toList.map (·.1.1),⟨some ⟨blk,0,none⟩,cap,by simp [hd'],by simp [hd']; exact hcap,hcm,by simp [hd',Rg.big]; omega,fun _=>⟨blk,0,rfl,Nat.lt_of_lt_of_le hlt hk.size,fun i hi=>?_⟩⟩,by simp,fun i h1 h2=>?_⟩
  ·have hi2:i<d'.size:=by simpa using hi
   have:=(hh i hi2).1;rw [this,getElem!_pos d' i hi2];simp [elVP]
  ·have hi2:i<d'.size:=by simpa using h1
   have:=(Rg.FI.kp (d'[i]).2 hk (fun z hz e=>hF (e▸hz))).ints;simp only [List.getElem_map,Array.getElem_toList];exact this
def wdOf (st:BSt) (x:List Nat):List Int:=st.2.getD (st.1.idxOf x) []
structure WqM (B:Nat) (W:World) (mb:Nat) (st:BSt) (vs:List Value):Prop where
 map:Sm.SMap W mb ((st.1.map keyS).zip vs)
 els:Rg.FElts (fun k=>k<B) W vs st.2
theorem WqM.below {B:Nat} {W W':World} {mb:Nat} {st:BSt} {vs:List Value} (h:WqM B W mb st vs) (hb:Below W.heap.size W W'):WqM B W' mb st vs :=
 ⟨h.map.below hb,h.els.kp (M:=fun _=>False) (Rg.Kp.of_below hb) (fun _ _=>id)⟩
theorem WqM.get {B:Nat} {W:World} {mb:Nat} {N:Nat} {st:BSt} {vs:List Value} (h:WqM B W mb st vs) (hb:BI N st) (hN:N≤64) {x:List Nat} (hx:x∈st.1):∃ v,Sm.look ((st.1.map keyS).zip vs) (keyS x)=some v∧Rg.FI (fun k=>k<B) W v (wdOf st x):=by
 have hi:st.1.idxOf x<st.1.length:=List.idxOf_lt_length_of_mem hx
 have hi2:st.1.idxOf x<st.2.length:=by rw [hb.ln]; exact hi
 have hi3:st.1.idxOf x<vs.length:=by rw [h.els.1]; exact hi2
 refine ⟨vs[st.1.idxOf x],look_at hb.nd (fun y hy=>gd_b (hb.gd y hy) hN) ?_ (List.getElem?_eq_getElem hi3),?_⟩
 ·rw [List.getElem?_eq_getElem hi,List.getElem_idxOf]
 ·have:=h.els.2 _ hi3 hi2
  unfold wdOf;rw [List.getD_eq_getElem?_getD,List.getElem?_eq_getElem hi2];exact this
theorem infoWordB:(Tryz.prog.info? 26).map (fun i=>(i.zero,i.size,i.bytes))=some (some (.slice none 0 0),1,24):=by kernel_rfl
theorem slWordsB:Rg.SlT Tryz.prog 39 26 (.slice none 0 0) 24:=⟨Tryz.underlying39,infoWordB,rfl,by decide⟩
structure RowWd (B:Nat) (W:World) (v:Value) (ll:List (List Int)):Prop where
 own:∃ us,W.ownsRow B 26 1 v ll.length us∧Rg.FElts (fun k=>k<B) W us ll
theorem RowWd.below {B:Nat} {W W':World} {v:Value} {ll:List (List Int)} (h:RowWd B W v ll) (hb:Below W.heap.size W W'):RowWd B W' v ll:=by
 obtain ⟨us,h1,h2⟩:=h.own;exact ⟨us,Rg.row_below h1 hb,h2.kp (M:=fun _=>False) (Rg.Kp.of_below hb) (fun _ _=>id)⟩
theorem RowWd.nil (B:Nat) (W:World):RowWd B W (.slice none 0 0) []:=⟨[],World.ownsRow_nil _ _ _ _,Rg.FElts.nil _ _⟩
theorem RowWd.shape {B:Nat} {W:World} {v:Value} {ll:List (List Int)} (h:RowWd B W v ll):∃ a c,v=.slice a ll.length c:=by
 obtain ⟨us,h1,h2⟩:=h.own;exact Rg.row_shape h1
theorem RowWd.rows {B:Nat} {W:World} {v:Value} {ll:List (List Int)} (h:RowWd B W v ll) (hl:ll.length≤1000000000):Rg.Rows W v ll:=by
 obtain ⟨us,h1,h2⟩:=h.own;exact Rg.Rows.of_row h1 hl h2.1 (fun i a b=>(h2.2 i a b).ints)
theorem RowWd.push {B:Nat} {W:World} {v:Value} {ll:List (List Int)} (h:RowWd B W v ll) (hB:B≤W.heap.size) {u:Value} {x:List Int} (hu:Rg.FI (fun k=>k<B) W u x) (hs:∃ a m c,u=.slice a m c) (hn:ll.length<1000000) (ty:TypeId) :
  ∃ a c X,(Builtin.append_ #[39,39] ty #[v,.slice (some ⟨W.heap.size,0,none⟩) 1 1]).run Tryz.prog (W.alloc (.cells #[u] 26))=.ok (.slice a (ll.length+1) c) X∧RowWd B X (.slice a (ll.length+1) c) (ll++[x])∧(∀ (B':Nat) (W0:World),B'≤B→Below B' W0 W→Below B' W0 X):=by
 obtain ⟨us,h1,h2⟩:=h.own;obtain ⟨a0,m0,c0,rfl⟩:=hs;have hb:Below W.heap.size W (W.alloc (.cells #[.slice a0 m0 c0] 26)):=(Below.refl _ _).alloc (Nat.le_refl _) _;obtain ⟨v',X,r1,r2,r3,r4,a,c,rfl⟩:=app_run (P:=Tryz.prog) slWordsB ty (Rg.row_below h1 hb) (Nat.le_trans hB hb.size) W.heap.size 1 (u:=.slice a0 m0 c0) (by rw [Rg.cellNew]; rfl) rfl hn;have hk:Rg.Kp (fun k=>v.ownBlock=some k) W X:=Rg.Kp.trans (M:=fun k=>v.ownBlock=some k) ((Rg.Kp.of_below hb).weak fun _=>False.elim) (Rg.Kp.of_grown r3 fun _ e=>e) (fun _ _ e=>e)
 have hg:∀ k,k<B→¬ v.ownBlock=some k:=fun k g e=>by have:=(h1.lt k e).1; omega
 refine ⟨a,c,X,r1,⟨us++[.slice a0 m0 c0],by rw [List.length_append]; exact r2,FElts.snoc (h2.kp hk hg) (Rg.FI.kp hu hk hg)⟩,fun B' W0 hB' hb0=>?_⟩;exact (hb0.alloc (Nat.le_trans hB' hB) _).grown r3 (Nat.le_trans (Nat.le_trans hB' hB) hb.size) (fun j hj=>Nat.le_trans hB' (h1.lt j hj).1)
theorem run_loadMW {w:World} {ad:Addr} {v:Value} (h:w.cell? ad=some v):(loadVar 76 ad).run Tryz.prog w=.ok v w:=by
 simp [loadVar,isAgg,run_underlying Tryz.underlying76,load];simp [Sem.run,h]
theorem clWd1 (args:Array Value) (w:World):(callFunc 55 args).run Tryz.prog w=.ok (.enter 55 args) w:=by kernel_rfl
def Wd1P (B:Nat) (ll:List (List Int)) (u:List Int) (w:World) (ed:Ending) (w':World):Prop:=∃ v,ed=.returned v∧RowWd B w' v (ll++[u])∧∀ (B':Nat) (W0:World),B'≤B→Below B' W0 w→Below B' W0 w'
theorem run_build1W (X:World) (u:Value) (hs:∃ a m c,u=.slice a m c):(Instr.buildSlice 39 1 #[(0,u)]).run Tryz.prog X=.ok (.slice (some ⟨X.heap.size,0,none⟩) 1 1) (X.alloc (.cells #[u] 26)):=by
 obtain ⟨a,m,c,rfl⟩:=hs;obtain ⟨i0,hi,hz0,hz1,hz2⟩:=info_parts infoWordB;refine run_buildSlice X 39 26 1 _ _ i0 _ Tryz.underlying39 hi hz0 (by rw [hz1]; decide) (by rw [hz1]; decide) ?_;generalize (fun x=>((Value.slice none 0 0).cells)[x % (Value.slice none 0 0).cells.size]!)=f;rw [hz1];have h1:Array.range (1*1)=#[0]:=rfl;simp [Instr.fill,Value.cells,h1]
theorem words1_any {B N:Nat} {mb bx:Nat} {st:BSt} {vs:List Value} {v xv:Value} {ll:List (List Int)} {x:List Nat} {w:World} (h:RowWd B w v ll) (hB:B≤w.heap.size) (hq:WqM B w mb st vs) (hbi:BI N st) (hN1:1≤N) (hN:N≤64) (hc:CL w bx 0 (.map (some mb))) (hx:Rg.NP w xv x) (hm:x∈st.1) (hl:ll.length<1000000) :
  Calls Tryz.prog 55 #[v,xv,.pointer (some ⟨bx,0,none⟩)] w (Wd1P B ll (wdOf st x) w):=by
 obtain ⟨va,vc,rfl⟩:=h.shape;have RW:=ι h;have HB:=ι hB;have HQ:=ι hq;have HBI:=ι hbi;have CB:=ι hc;have NX:=ι (NpI.mk hx);have GX:=ι (hbi.gd x hm);obtain ⟨wv,hlk,hfi⟩:=hq.get hbi hN hm;have HLK:=ι hlk;have HFI:=ι hfi;obtain ⟨wa,wc,hws,-⟩:=hfi.ints.shape;subst hws;have HL:=ι hl;clear h hB hq hbi hc hx hlk hfi hl hm
 go_enter Tryz.func55,Tryz.ntmps55
 go_upto_region 0 with (fail);refine Rg.wl ?_;refine Rg.la 5 (.slice none 0 0) ?_;go_frame;have hV1:Below w.heap.size w w.drew:=(Below.refl _ _).drew;have K:=ι hV1;replace RW:=ι (RW.out.below hV1);replace HQ:=ι (HQ.out.below hV1);replace CB:=ι (CB.out.below hV1);replace NX:=ι (NX.out.below hV1);replace HFI:=ι (Rg.FI.kp HFI.out (M:=fun _=>False) (Rg.Kp.of_below hV1) (fun _ _=>id));replace HB:=ι (Nat.le_trans HB.out hV1.size);have KD:=ι (fun (B':Nat) (W0:World) (hb:Below B' W0 w)=>hb.drew);clear hV1;go_upto_region 1 with (fail);have hV0:Below w.heap.size w w.drew:=(Below.refl _ _).drew;generalize Fup (fun _:Nat=>True) w w.drew=F1 at *;clear hV0;refine Rg.Any.begin (S:=Rg.Both 4 (fun W=>Below w.drew.heap.size w.drew W) (fun _=>True)) mix ?_;generalize w.drew=w1 at *;have hS:∀ (l:Array Bool) W,Below w1.heap.size w1 W→Rg.Both 4 (fun W=>Below w1.heap.size w1 W) (fun _=>True) l W:=fun l W h=>⟨.inr h,trivial⟩
 have hS2:∀ (l:Array Bool) W,l.getD 4 false=true→Rg.Both 4 (fun W=>Below w1.heap.size w1 W) (fun _=>True) l W:=fun l W h=>⟨.inl h,trivial⟩;have hI:Below w1.heap.size w1 w1:=Below.refl _ _;refine Rg.tm 0 4 (.slice va ll.length vc) 6 (hS _ _ hI) ?_;go_frame;refine Rg.Any.takeT (i:=1) (t:=4) (v:=(.map (some mb))) (some 7) rfl rfl (by kernel_rfl) (by kernel_rfl) (by kernel_rfl) (fun _ _ _ h=>h) rfl (by kernel_rfl) rfl (Rg.yields_cell _ _ rfl rfl ⟨bx,0,none⟩ rfl (fun W hW=>run_loadMW ((Below.cell (p:=⟨bx,0,none⟩) hW CB.out.lt).trans CB.out.cell))) (hS _ _ hI) ?_;go_frame;refine Rg.tm 2 4 (xv) 8 (hS _ _ hI) ?_;go_frame;refine Rg.Any.one (i:=3) (by kernel_rfl) (Rg.Any.ask (some 9) rfl rfl rfl _ _ (exec_fn1 56 _ _ rfl rfl (Bgcl5 _ _)) ?_);refine (key_any NX.out.i (by rw [GX.out.2]; exact hN1) (by rw [GX.out.2]; exact hN) (gd_b GX.out hN)).mono ?_;rintro e1 w2 ⟨rfl,hb⟩
 have hI2_u:=Rg.acc hI hb;clear hI;generalize Fup F1 w1 w2=F2 at *;clear hb;refine ⟨_,rfl,(hS _ _ hI2_u),?_⟩;go_frame;have hlk:=Sm.lookup_no stWords (HQ.out.map.below hI2_u) (keyS x);rw [HLK.out,Option.getD_some] at hlk;refine Rg.Any.one (i:=4) (by kernel_rfl) (Rg.Any.run (some 10) rfl rfl rfl (Rg.exec_lookup _ _ _ _ rfl _ _ rfl rfl hlk) (hS2 _ _ rfl) ?_);go_frame;have hHB:B≤w2.heap.size:=Nat.le_trans HB.out hI2_u.size;obtain ⟨a9,c9,X9,r1,r2,r3⟩:=(RW.out.below hI2_u).push hHB (Rg.FI.kp HFI.out (M:=fun _=>False) (Rg.Kp.of_below hI2_u) (fun _ _=>id)) ⟨_,_,_,rfl⟩ HL.out 39;have hKK:=hI2_u;refine Rg.Any.one (i:=5) (by kernel_rfl) (Rg.Any.run (some 11) rfl rfl rfl (Rg.exec_buildSlice _ _ _ rfl (.slice wa (wdOf st x).length wc) rfl (run_build1W w2 _ ⟨_,_,_,rfl⟩)) (hS2 _ _ rfl) ?_);go_frame;refine Rg.Any.one (i:=6) (by kernel_rfl) (Rg.Any.run (some 12) rfl rfl rfl (Rg.exec_append _ _ _ rfl rfl rfl r1) (hS2 _ _ rfl) ?_)
 go_frame;refine Rg.Any.one (i:=7) (by kernel_rfl) (Rg.Any.run (some 5) rfl rfl rfl (Rg.exec_assign _ rfl rfl) (hS2 _ _ rfl) ?_);go_frame;refine Rg.Any.done (by kernel_rfl) ?_ _;clear hS2;clear hS hI2_u;have R2:=ι r2;have R3:=ι (fun (B':Nat) (W0:World) (h1:B'≤B) (h2:Below B' W0 w)=>r3 B' W0 h1 ((KD.out B' W0 h2).trans (hKK.mono (Nat.le_trans h1 HB.out))));clear r1 r2 r3 hKK;go_wp2;go_ret;exact ⟨_,rfl,R2.out,R3.out⟩

theorem Bmcl0 (args:Array Value) (w:World):(callFunc 51 args).run Tryz.prog w=.ok (.enter 51 args) w:=by kernel_rfl
theorem Bmcl1 (args:Array Value) (w:World):(callFunc 54 args).run Tryz.prog w=.ok (.enter 54 args) w:=by kernel_rfl
theorem BfM.opened {B:Nat} {W:World} {fv:Value} {mb:Nat} {Fd Ks:List (List Nat)} {vs:List Value} {Wd:List (List Int)} (h:BfM B W fv mb Fd Ks vs Wd) (hn:1≤Fd.length) :
  ∃ g cap us,fv=.slice (some ⟨g,0,none⟩) Fd.length cap∧Rg.FElts (GF W mb fv) W us (Fd.map Ma.ofN)∧g<W.heap.size∧Fd.length≤cap∧cap≤maxLen∧∀ i (_:i<us.length),W.cell? ⟨g,i,none⟩=some us[i]∧W.frozen? ⟨g,i,none⟩=false:=by
 obtain ⟨us,⟨h1,h2⟩,h3⟩:=h.row
 rcases h2 with ⟨_,e⟩ | ⟨g,cap,cur,e,hg,hc,h5,h6,h7,h8⟩
 ·omega
 ·refine ⟨g,cap,us,e,h3,(Array.getElem?_eq_some_iff.1 hc).1,h5,h6,fun i hi=>⟨?_,?_⟩⟩
  ·unfold World.cell?
   simp only [hc]
   have h9:cur.toList[i]?=us[i]?:=by
    rw [← h8,List.getElem?_take_of_lt (by have:=h3.1; rw [List.length_map] at this; omega)]
   rw [← Array.getElem?_toList,h9,List.getElem?_eq_getElem hi]; rfl
  ·unfold World.frozen?
   simp [hc]
theorem BfM.lo {B:Nat} {W:World} {fv:Value} {mb:Nat} {Fd Ks:List (List Nat)} {vs:List Value} {Wd:List (List Int)} (h:BfM B W fv mb Fd Ks vs Wd):∀ k,fv.ownBlock=some k→B≤k:=fun k e=>by
 obtain ⟨us,h1,h2⟩:=h.row;exact (h1.lt k e).1
def SrV (d:Int) (ll:List (List Int)) (w w':World) (fv:Value) (mo:Option Nat) (c:Int):Prop :=
 (Ma.gchk d ll≠0∧c=Ma.gchk d ll∧fv=.slice none 0 0) ∨
  (Ma.gchk d ll=0∧∃ (N:Nat) (gs:List (List Nat)) (O:List (List Nat)) (R:List (List (List Nat))),d=((N:Nat):Int)∧ll=gs.map Ma.ofN∧1≤N∧gs.length≤16∧(∀ s∈gs,Gd N s)∧IsChain N (Cm.Gr N (·∈gs)) O R ∧
   ((5040<szD O N N∧c=5∧fv=.slice none 0 0) ∨
   (szD O N N≤5040∧c=0∧∃ (mb:Nat) (vs:List Value) (st:BSt),mo=some mb∧BfE (mlets gs) N st∧BI N st∧st.1.length≤5040∧1≤st.1.length∧BfM w.heap.size w' fv mb st.1 st.1 vs st.2)))
theorem BfE.len {ml:List (List Nat × Int)} {N:Nat} {st:BSt} (h:BfE ml N st):1≤st.1.length:=by
 obtain ⟨i,rfl,h2⟩:=h
 induction i with
 | zero=>exact Nat.le_refl 1
 | succ i ih =>
  have e:bfs ml N (i+1)=if i<(bfs ml N i).1.length then bfRow ml (bfs ml N i) i else bfs ml N i:=rfl;omega
theorem fcSearch_v (gv:Value) (d:Int) (ll:List (List Int)) (w:World) (h:Rg.Rows w gv ll) (hd:d≤12) :
  Calls Tryz.prog 51 #[.agg #[.int .i64 d,gv]] w fun ed w'=>∃ a n cap mo c,ed=.returned (.tuple #[.slice a n cap,.map mo,.int .i64 c])∧SrV d ll w w' (.slice a n cap) mo c∧Below w.heap.size w w':=by
 refine (fcSearch_any gv d ll w h hd).mono ?_
 rintro ed w' ⟨hb,⟨h1,rfl⟩ | ⟨h1,N,gs,O,R,e1,e2,h2,h3,h4,h5,⟨h6,rfl⟩ | ⟨h6,fv,mb,vs,st,rfl,h7,h8,h9⟩⟩⟩
 ·exact ⟨_,_,_,_,_,rfl,.inl ⟨h1,rfl,rfl⟩,hb⟩
 ·exact ⟨_,_,_,_,_,rfl,.inr ⟨h1,N,gs,O,R,e1,e2,h2,h3,h4,h5,.inl ⟨h6,rfl,rfl⟩⟩,hb⟩
 ·obtain ⟨a,c,hs⟩:=h9.shape
  subst hs
  have hl:st.1.length≤5040:=by
   obtain ⟨i,hi,_⟩:=h7;have:=bfs_few h4 h5 i;rw [hi] at this;omega
  exact ⟨_,_,_,_,_,rfl,.inr ⟨h1,N,gs,O,R,e1,e2,h2,h3,h4,h5,.inr ⟨h6,rfl,mb,vs,st,rfl,h7,h8,hl,h7.len,h9⟩⟩,hb⟩
theorem infoMW:(Tryz.prog.info? 76).map (fun i=>(i.zero,i.size,i.bytes))=some (some (.map none),1,8):=by kernel_rfl
theorem exec_allocMW {o:Oper} {a:Act} {w:World} (ho:o.op=.alloc 76):(execOp a.eval o).run Tryz.prog w=.ok (.value (.pointer (some ⟨w.heap.size,0,none⟩))) (w.alloc (.cells #[.map none] 76)):=by
 obtain ⟨i0,hi,hz0,hz1,hz2⟩:=info_parts infoMW;unfold execOp;simp [ho,Instr.alloc,typeInfo,zeroValue,hi,hz0,newVar,Value.cells,Result.andThen];rfl
theorem run_storeMW {w:World} {b:Nat} {u:Value} (mo:Option Nat) (h:w.cell? ⟨b,0,none⟩=some u) (hf:w.frozen? ⟨b,0,none⟩=false) :
  (storeVar 76 ⟨b,0,none⟩ (.map mo)).run Tryz.prog w=.ok () (w.setCell ⟨b,0,none⟩ (.map mo)):=by
 obtain ⟨i0,hi,hz0,hz1,hz2⟩:=info_parts infoMW
 have h0:(⟨b,0,none⟩:Addr).add 0=⟨b,0,none⟩:=by simp [Addr.add]
 simp [storeVar,sizeOf,typeInfo,hi,hz1,Value.cells,storeCells,store,h0];simp [Sem.run,h,hf]
theorem boxMW (W:World) (mo:Option Nat) (t:TypeId):CL ((W.alloc (.cells #[.map none] t)).setCell ⟨W.heap.size,0,none⟩ (.map mo)) W.heap.size 0 (.map mo)∧Below W.heap.size W ((W.alloc (.cells #[.map none] t)).setCell ⟨W.heap.size,0,none⟩ (.map mo)):=by
 have c0:(W.alloc (.cells #[.map none] t)).cell? ⟨W.heap.size,0,none⟩=some (.map none):=by rw [Rg.cellNew]; rfl
 exact ⟨⟨World.cell?_setCell_same (h:=c0) ..,by simp⟩,((Below.refl _ _).alloc (Nat.le_refl _) _).setCell (p:=⟨W.heap.size,0,none⟩) (Nat.le_refl _) _⟩
theorem foldW_any {N:Nat} {mb bx:Nat} {st:BSt} {vs:List Value} {xv:Value} {S:List (List Nat)} {w:World} (hr:Rg.Rows w xv (S.map Ma.ofN)) (hS:∀ x∈S,x∈st.1) (hl:S.length≤5040) (hq:WqM w.heap.size w mb st vs) (hbi:BI N st) (hN1:1≤N) (hN:N≤64) (hc:CL w bx 0 (.map (some mb))) :
  Calls Tryz.prog 54 #[xv,.slice none 0 0,(.func (.func 55) #[] #[.pointer (some ⟨bx,0,none⟩)])] w fun ed w'=>∃ v,ed=.returned v∧Rg.Rows w' v (S.map (wdOf st))∧Below w.heap.size w w':=by
 obtain ⟨xa,xc,e0,-⟩:=hr.shape;obtain ⟨n,hn⟩:∃ n,Hid (S.length=n):=⟨_,ι rfl⟩;rw [List.length_map,hn.out] at e0;subst e0;have HR:=ι hr;have HS:=ι hS;have HQ0:=ι hq;have HBI:=ι hbi;have CB0:=ι hc
 have hn5:n≤5040:=by rw [← hn.out]; exact hl
 clear hr hS hq hbi hc hl
 go_enter Tryz.func54,Tryz.ntmps54
 go_upto_region 0 with (fail);refine Rg.wl ?_;refine Rg.la 6 (.slice none 0 0) ?_;go_frame;go_upto_region 1 with (fail);refine Rg.wl ?_;refine Rg.lm 9 (.slice xa n xc) ?_;go_frame;refine Rg.lr 10 (exec_len _ _ _ rfl Tryz.underlying22 _ _ _ rfl) ?_;go_frame;refine Rg.lm 11 (.int .i64 ((0:Nat):Int)) ?_;go_frame;have RW0:=ι (show RowWd w.heap.size w (.slice none 0 0) ((S.take 0).map (wdOf st)) from RowWd.nil _ _);have K0:=ι (Below.refl w.heap.size w);go_wp2
 go_loopw [1,11] (fun vv iv wr=>∃ i:Nat,iv=.int .i64 ((i:Nat):Int)∧i≤n∧Hid (RowWd w.heap.size wr vv ((S.take i).map (wdOf st)))∧Hid (Below w.heap.size w wr)) (fun _ iv _=>n - (intOf iv).toNat)
 case atStart=>exact ⟨0,rfl,Nat.zero_le _,RW0,K0⟩
 case round =>
  clear RW0 K0;obtain ⟨i,rfl,hi,RW,K⟩:=hrel;obtain ⟨va,vc,hsh⟩:=RW.out.shape;obtain ⟨k,hk⟩:∃ k,Hid (((S.take i).map (wdOf st)).length=k):=⟨_,ι rfl⟩;rw [hk.out] at hsh;subst hsh
  by_cases hil:i<n
  case neg =>
   have HT:=ι (show S.take i=S from List.take_of_length_le (by have:=hn.out; omega));go_upto_region 2 with (fail);refine Rg.wl ?_;refine Rg.lr 12 (exec_bin (R:=.bool false) .lss _ _ _ rfl rfl rfl (b_lss _ Rg.dF)) ?_;go_frame;go_upto_region 6 with (fail);refine Rg.wl ?_;refine Rg.lm 20 (.slice va k vc) ?_;go_frame;refine Rg.la 6 (.slice va k vc) ?_;go_frame;go_wp2;go_ret;exact ⟨_,rfl,by have:=RW.out.rows (by rw [hk.out]; have:=hk.out; rw [List.length_map,List.length_take] at this; have:=hn.out; omega); rw [HT.out] at this; exact this,K.out⟩
  case pos =>
   have HIL:=ι hil
   have hiS:i<S.length:=by rw [hn.out]; exact hil
   obtain ⟨b,o,ua,uc,e1,hb0,hc0,hr0⟩:=rows_get HR.out (i:=i) (by rw [List.length_map]; exact hiS);subst e1;obtain ⟨x,hx⟩:∃ x,Hid (S[i]'hiS=x):=⟨_,ι rfl⟩
   have e5:((S.map Ma.ofN)[i]'(by rw [List.length_map]; exact hiS))=Ma.ofN x:=by rw [List.getElem_map,hx.out]
   rw [e5] at hc0 hr0;have CX:=ι ((CL.mk hc0 hb0).below K.out);have NX:=ι (NpI.below (NpI.mk hr0) K.out);have HQ:=ι (HQ0.out.below K.out);have CB:=ι (CB0.out.below K.out);have HXM:=ι (show x∈st.1 from hx.out▸HS.out _ (List.getElem_mem hiS));have HKL:=ι (show ((S.take i).map (wdOf st)).length<1000000 by rw [List.length_map,List.length_take]; omega);have HEN:=ι (show (S.take (i+1)).map (wdOf st)=(S.take i).map (wdOf st)++[wdOf st x] by rw [List.take_succ_eq_append_getElem hiS,List.map_append,hx.out]; rfl);clear hb0 hc0 hr0 e5;go_upto_region 2 with (fail);refine Rg.wl ?_;refine Rg.lr 12 (exec_bin (R:=.bool true) .lss _ _ _ rfl rfl rfl (b_lss _ Rg.dT)) ?_;go_frame;go_upto_region 3 with (fail);refine Rg.wl ?_;refine Rg.lr 13 (exec_indexS slPerms _ _ rfl b (o) (n) xc (i) rfl rfl HIL.out) ?_;go_frame;refine Rg.lr 14 (Rg.exec_load (v:=(.slice ua (Ma.ofN x).length uc)) _ _ rfl ⟨b,o+i,none⟩ rfl (Rg.run_loadSl _ _ Tryz.underlying30 CX.out.cell)) ?_;go_frame
   refine Rg.la 8 ((.slice ua (Ma.ofN x).length uc)) ?_;go_frame;go_upto_region 4 with (fail);refine Rg.wl ?_;refine Rg.lm 15 ((.func (.func 55) #[] #[.pointer (some ⟨bx,0,none⟩)])) ?_;go_frame;refine Rg.lm 16 (.slice va k vc) ?_;go_frame;refine Rg.lm 17 ((.slice ua (Ma.ofN x).length uc)) ?_;go_frame;refine Rg.lk 18 (exec_fnc2 55 _ _ _ _ rfl rfl rfl rfl (clWd1 _ _)) ?_;refine (words1_any RW.out K.out.size HQ.out HBI.out hN1 hN CB.out NX.out.i HXM.out HKL.out).mono ?_;rintro e1 w21 ⟨uv,rfl,huv,hb⟩;have RW2:=ι (show RowWd w.heap.size w21 uv ((S.take (i+1)).map (wdOf st)) by rw [HEN.out]; exact huv);have K2:=ι (hb _ _ (Nat.le_refl _) K.out);clear huv;refine ⟨_,rfl,?_⟩;go_frame;clear hb;refine Rg.la 1 (uv) ?_;go_frame;go_upto_region 5 with (fail);refine Rg.wl ?_;refine Rg.lr 19 (exec_bin (R:=.int .i64 (((i+1):Nat):Int)) .add _ _ _ rfl rfl rfl (b_add _ (by omega) (by omega))) ?_;go_frame
   refine Rg.lm 11 (.int .i64 (((i+1):Nat):Int)) ?_;go_frame;go_wp2
   go_roundw
   case rel=>exact ⟨i+1,by go_num,HIL.out,RW2,K2⟩
   case measure=>simp [intOf]; have:=HIL.out; omega
theorem clSF (args:Array Value) (w:World):(callFunc 52 args).run Tryz.prog w=.ok (.enter 52 args) w:=by kernel_rfl
def WdV (d:Int) (ll:List (List Int)) (l:List (List Int)) (c:Int):Prop :=
 (Ma.gchk d ll≠0∧c=Ma.gchk d ll∧l=[]) ∨
  (Ma.gchk d ll=0∧∃ (N:Nat) (gs:List (List Nat)) (O:List (List Nat)) (R:List (List (List Nat))),d=((N:Nat):Int)∧ll=gs.map Ma.ofN∧1≤N∧gs.length≤16∧(∀ s∈gs,Gd N s)∧IsChain N (Cm.Gr N (·∈gs)) O R ∧
   ((5040<szD O N N∧c=5∧l=[]) ∨
   (szD O N N≤5040∧c=0∧∃ (st:BSt) (S:List (List Nat)),BfE (mlets gs) N st∧BI N st∧S.Perm st.1∧(S.map Ma.ofN).Pairwise (fun a b=>lessL b a=false)∧l=S.map (wdOf st))))
def WdPost (d:Int) (ll:List (List Int)) (w:World) (ed:Ending) (w':World):Prop:=∃ v l c,ed=.returned (.tuple #[v,.int .i64 c])∧WdV d ll l c∧Rg.Rows w' v l∧Below w.heap.size w w'
theorem rows_nil (w:World):Rg.Rows w (.slice none 0 0) []:=Rg.Rows.nil w none 0 (Nat.zero_le _)
theorem fcWords_any (gv:Value) (d:Int) (ll:List (List Int)) (w:World) (h:Rg.Rows w gv ll) (hd:d≤12) :
  Calls Tryz.prog 18 #[.agg #[.int .i64 d,gv]] w (WdPost d ll w):=by
 obtain ⟨ga,gc,rfl,hga,hba⟩:=GI.enter (d) h;have K:=ι hba;have G0:=ι hga;clear h hga hba
 go_enter Tryz.func18,Tryz.ntmps18
 go_upto_region 0 with (fail);refine Rg.wl ?_;refine Rg.lr 1 (Rg.exec_box _ _ rfl rfl) ?_;go_frame;refine Rg.la 2 (.slice none 0 0) ?_;go_frame;refine Rg.la 3 (.int .i64 0) ?_;go_frame;obtain ⟨gb,hgb⟩:∃ gb,w.heap.size=gb:=⟨_,rfl⟩;rw [hgb] at G0 ⊢;generalize w.alloc (.cells #[.int .i64 d,.slice ga ll.length gc] 24)=w0 at *;clear hgb;have HW0:=ι K.out.size;go_upto_region 1 with (fail);refine Rg.wl ?_;refine Rg.lr 8 (Rg.exec_load (v:=.agg #[.int .i64 d,.slice ga ll.length gc]) _ _ rfl ⟨gb,0,none⟩ rfl (run_loadG G0.out.c0 G0.out.c1)) ?_;go_frame;refine Rg.lk 9 (exec_fn1 51 _ _ rfl rfl (Bmcl0 _ _)) ?_;refine (fcSearch_v _ d ll w0 G0.out.rows hd).mono ?_;rintro e1 w1 ⟨fa,fn,fc,mo,c,rfl,hsr,hb⟩;have SR:=ι hsr;have HSZ:=ι hb.size;clear hsr;refine ⟨_,rfl,?_⟩;go_frame;replace G0:=ι (G0.out.below hb);replace K:=ι (Rg.acc K.out hb);clear hb;refine Rg.lm 7 (.tuple #[.slice fa fn fc,(.map mo),.int .i64 c]) ?_;go_frame
 refine Rg.lr 10 (exec_extract (v:=.slice fa fn fc) _ _ rfl rfl rfl) ?_;go_frame;refine Rg.lr 11 (exec_extract (v:=(.map mo)) _ _ rfl rfl rfl) ?_;go_frame;refine Rg.lr 12 (exec_extract (v:=.int .i64 c) _ _ rfl rfl rfl) ?_;go_frame;refine Rg.lr 5 (exec_allocMW rfl) ?_;go_frame;refine Rg.la 4 (.slice fa fn fc) ?_;go_frame;refine Rg.list_skip none rfl rfl (Rg.exec_store _ _ _ rfl _ rfl _ rfl (run_storeMW _ (by rw [Rg.cellNew]; rfl) (frozenNewN _ _ _ 0 _))) ?_;go_frame;have hbx:=boxMW w1 mo 76;have HKS:=ι hbx.2;have hb:=hbx.2;generalize (w1.alloc (.cells #[.map none] 76)).setCell ⟨w1.heap.size,0,none⟩ (.map mo)=w2 at *;replace G0:=ι (G0.out.below hb);replace K:=ι (Rg.acc K.out hb);clear hb;have CB:=ι hbx.1;clear hbx;refine Rg.la 6 (.int .i64 c) ?_;go_frame
 rcases SR.out with ⟨h1,rfl,-⟩ | ⟨h1,N,gs,O,R,rfl,rfl,hN1,hgl,hgd,hch,⟨h2,rfl,-⟩ | ⟨h2,rfl,mb,vs,st,rfl,hbe,hbi,hl,hl1,hbf⟩⟩
 ·skip
  go_upto_region 2 with (fail);refine Rg.wl ?_;refine Rg.lm 13 (.int .i64 (Ma.gchk d ll)) ?_;go_frame;refine Rg.lr 14 (exec_bin (R:=.bool true) .neq _ _ _ rfl rfl rfl (b_neqB _ (decide_eq_true h1))) ?_;go_frame;go_upto_region 3 with (fail);refine Rg.wl ?_;refine Rg.lm 15 (.int .i64 (Ma.gchk d ll)) ?_;go_frame;refine Rg.la 2 (.slice none 0 0) ?_;go_frame;refine Rg.la 3 (.int .i64 (Ma.gchk d ll)) ?_;go_frame;go_wp2
  go_ret2
  exact ⟨_,[],_,rfl,.inl ⟨h1,rfl,rfl⟩,rows_nil _,K.out⟩
 ·skip
  go_upto_region 2 with (fail);refine Rg.wl ?_;refine Rg.lm 13 (.int .i64 5) ?_;go_frame;refine Rg.lr 14 (exec_bin (R:=.bool true) .neq _ _ _ rfl rfl rfl (b_neqB _ (decide_eq_true (by decide)))) ?_;go_frame;go_upto_region 3 with (fail);refine Rg.wl ?_;refine Rg.lm 15 (.int .i64 5) ?_;go_frame;refine Rg.la 2 (.slice none 0 0) ?_;go_frame;refine Rg.la 3 (.int .i64 5) ?_;go_frame;go_wp2
  go_ret2
  exact ⟨_,[],_,rfl,.inr ⟨h1,N,gs,O,R,rfl,rfl,hN1,hgl,hgd,hch,.inl ⟨h2,rfl,rfl⟩⟩,rows_nil _,K.out⟩
 ·skip
  go_upto_region 2 with (fail);refine Rg.wl ?_;refine Rg.lm 13 (.int .i64 0) ?_;go_frame;refine Rg.lr 14 (exec_bin (R:=.bool false) .neq _ _ _ rfl rfl rfl (b_neqB _ (decide_eq_false (by decide)))) ?_;go_frame;have HBF:=ι hbf;have HBE:=ι hbe;have HBI:=ι hbi;clear hbf hbe hbi SR;have HBB:=ι (show w1.heap.size≤w1.heap.size from Nat.le_refl _);have HB2:=ι (HBF.out.below HKS.out);obtain ⟨fb,cap,us,e1,hus,hlt,hcap,hcm,hcells⟩:=HB2.out.opened hl1;have hfbl:=HBF.out.lt1 fb (by rw [e1]; rfl);have hflo:=HBF.out.lo fb (by rw [e1]; rfl);have HFLO:=ι (Nat.le_trans HW0.out hflo);clear hflo;simp only [Value.slice.injEq] at e1;obtain ⟨rfl,rfl,rfl⟩:=e1;have HFL:=ι hfbl;clear hfbl;go_upto_region 4 with (fail);refine Rg.wl ?_;refine Rg.lm 16 (.slice (some ⟨fb,0,none⟩) st.1.length fc) ?_;go_frame;refine Rg.lk 17 (exec_fn 52 _ _ _ rfl rfl rfl (clSF _ _)) ?_;have hll:(st.1.map Ma.ofN).length=st.1.length:=List.length_map ..
  rw [← hll] at hcap ⊢;refine (sortPP (blk:=fb) hus (fun g=>g.2.2 rfl) hcells hlt (by rw [hll]; omega) hcap hcm).mono ?_;rintro e1 w9 ⟨rfl,ll',hp,hpw,hrows,hk⟩;refine ⟨_,rfl,?_⟩;rw [hll] at hrows ⊢;go_frame
  have hSp:(ll'.map (List.map Int.toNat)).Perm st.1:=by
   have:=hp.map (List.map Int.toNat)
   rwa [List.map_map,show (List.map Int.toNat ∘ Ma.ofN)=id from funext fun x=>ofN_back x,List.map_id] at this
  have hSe:(ll'.map (List.map Int.toNat)).map Ma.ofN=ll':=by
   rw [List.map_map]
   conv=>rhs; rw [← List.map_id ll']
   refine List.map_congr_left fun y hy=>?_;obtain ⟨x,hx,rfl⟩:=List.mem_map.1 (hp.mem_iff.1 hy);show Ma.ofN ((Ma.ofN x).map Int.toNat)=Ma.ofN x;rw [ofN_back]
  generalize ll'.map (List.map Int.toNat)=S at hSp hSe;subst hSe;have HRW:=ι hrows;have HSP:=ι hSp;have HPW:=ι hpw;have HQ:=ι (show WqM w9.heap.size w9 mb st vs from ⟨HB2.out.map.of_block (hk.block mb HB2.out.map.lt (fun e=>HB2.out.off (by rw [← e]; rfl))),(HB2.out.els.kp hk (fun k g e=>g.2.2 (by rw [e]; rfl))).mono (fun k g=>Nat.lt_of_lt_of_le g.1 hk.size)⟩);have CB9:=ι (CB.out.kp hk (fun e=>by have:=HFL.out; have:=HBB.out; omega));have K9:=ι (kp_below K.out K.out.size hk (fun k e=>by rw [e]; exact HFLO.out));clear hrows hSp hpw hk hp hus hlt hcap hcm hcells hll CB K;go_upto_region 5 with (fail);refine Rg.wl ?_;refine Rg.lm 18 (.slice (some ⟨fb,0,none⟩) st.1.length fc) ?_;go_frame;refine Rg.lr 19 (exec_makeFunc 55 _ rfl rfl) ?_;go_frame;refine Rg.lk 20 (exec_fn3 54 _ _ _ _ rfl rfl rfl rfl (Bmcl1 _ _)) ?_;refine (foldW_any HRW.out (fun x hx=>HSP.out.mem_iff.1 hx) (by rw [HSP.out.length_eq]; exact hl) HQ.out HBI.out hN1 (by omega) CB9.out).mono ?_
  rintro e1 w301 ⟨rv,rfl,hrv,hb⟩;refine ⟨_,rfl,?_⟩;go_frame;replace CB9:=ι (CB9.out.below hb);replace K9:=ι (Rg.acc K9.out hb);clear hb;refine Rg.la 2 (rv) ?_;go_frame;refine Rg.la 3 (.int .i64 ((0:Nat):Int)) ?_;go_frame;go_wp2
  go_ret2
  exact ⟨_,_,_,rfl,.inr ⟨h1,N,gs,O,R,rfl,rfl,hN1,hgl,hgd,hch,.inr ⟨h2,rfl,st,S,HBE.out,HBI.out,HSP.out,HPW.out,rfl⟩⟩,hrv,K9.out⟩

theorem Bncl0 (args:Array Value) (w:World):(callFunc 25 args).run Tryz.prog w=.ok (.enter 25 args) w:=by kernel_rfl
theorem Bncl1 (args:Array Value) (w:World):(callFunc 13 args).run Tryz.prog w=.ok (.enter 13 args) w:=by kernel_rfl
theorem Bncl2 (args:Array Value) (w:World):(callFunc 15 args).run Tryz.prog w=.ok (.enter 15 args) w:=by kernel_rfl
theorem Bncl3 (args:Array Value) (w:World):(callFunc 18 args).run Tryz.prog w=.ok (.enter 18 args) w:=by kernel_rfl
theorem Bncl4 (args:Array Value) (w:World):(callFunc 27 args).run Tryz.prog w=.ok (.enter 27 args) w:=by kernel_rfl
theorem Bncl5 (args:Array Value) (w:World):(callFunc 24 args).run Tryz.prog w=.ok (.enter 24 args) w:=by kernel_rfl
theorem sameWords_q (v1 v2:Value) (l1 l2:List (List Int)) (w:World) (h1:Rg.Rows w v1 l1) (h2:Rg.Rows w v2 l2) :
  Calls Tryz.prog 24 #[v1,v2] w fun e w'=>e=.returned (.bool (decide (l1=l2)))∧∃ k,w'=w.drewN k:=by
 obtain ⟨a1,c1,rfl,n1,m1,_,k1⟩:=h1.shape;obtain ⟨a2,c2,rfl,n2,m2,_,k2⟩:=h2.shape;clear h1 h2;have K1:=ι k1;have K2:=ι k2;clear k1 k2;generalize hD:decide (l1=l2)=D;have HD:=ι hD;clear hD
 by_cases hl:l1.length=l2.length
 ·have hb:((l1.length:Int) != (l2.length:Int))=false:=by rw [hl]; simp
  have Hl:=ι hl;clear hl
  go_enter Tryz.func24,Tryz.ntmps24
  go_wp2;clear hb
  go_loopw [5] (fun v wr=>∃ i:Nat,v=.int .i64 i∧i≤l1.length∧Hid (∃ k,wr=w.drewN k)∧Hid (l1.take i=l2.take i)) (fun v _=>l1.length - (intOf v).toNat)
  case atStart=>exact ⟨0,rfl,by omega,⟨0,rfl⟩,by show _=_; simp⟩
  case round =>
   obtain ⟨i,rfl,hi,hw,hs⟩:=hrel
   by_cases hlt:i<l1.length
   ·have hi2:i<l2.length:=by have:=Hl.out; omega
    obtain ⟨b1,o1,rfl,hb1,d1⟩:=K1.out (by omega);obtain ⟨b2,o2,rfl,hb2,d2⟩:=K2.out (by omega);obtain ⟨u1,y1,hu1⟩:=d1 i hlt;obtain ⟨u2,y2,hu2⟩:=d2 i hi2
    have x1:wr.cell? ⟨b1,o1+i,none⟩=some u1:=by obtain ⟨k,e⟩:=hw.out; rw [e]; exact y1
    have x2:wr.cell? ⟨b2,o2+i,none⟩=some u2:=by obtain ⟨k,e⟩:=hw.out; rw [e]; exact y2
    have hlt2:(i:Int)<(l2.length:Int):=by omega
    generalize hx:l1[i]=x at hu1;generalize hy:l2[i]=y at hu2;have Hx:=ι hx;have Hy:=ι hy;clear d1 d2 hx hy y1 y2;have hq:∀ n,_:=fun n=>Same_q u1 u2 x y (wr.drewN n) (by obtain ⟨k,e⟩:=hw.out; rw [e]; exact hu1) (by obtain ⟨k,e⟩:=hw.out; rw [e]; exact hu2)
    by_cases he:x=y
    ·have hdd:decide (x=y)=true:=decide_eq_true he
     have He:=ι he;rw [hdd] at hq;have Hq:=ι hq;clear he hdd hq;go_wp2
     go_quiet ((go_at_call 15; exact Calls.quiet_of (Hq.out _)))
     go_wp2
     go_roundw
     case rel=>exact ⟨i+1,by go_num,by omega,by obtain ⟨k,e⟩:=hw.out; rw [e]; exact ⟨_,World.drewN_drewN _ _ _⟩,by show _=_; rw [List.take_succ_eq_append_getElem hlt,List.take_succ_eq_append_getElem hi2,hs.out,Hx.out,Hy.out,He.out]⟩
     case measure=>simp [intOf]; omega
    ·have hdd:decide (x=y)=false:=decide_eq_false he
     have He:=ι he;rw [hdd] at hq;have Hq:=ι hq;clear he hdd hq;go_wp2
     go_quiet ((go_at_call 15; exact Calls.quiet_of (Hq.out _)))
     go_wp2;go_ret;exact ⟨Rg.ret_bool (by rw [← HD.out]; symm; rw [decide_eq_false_iff_not]; intro hc; subst hc; exact He.out (Hx.out.symm.trans Hy.out)),by obtain ⟨k,e⟩:=hw.out; rw [e]; exact ⟨_,World.drewN_drewN _ _ _⟩⟩
   ·go_wp2
    go_ret;refine ⟨Rg.ret_bool ?_,hw.out⟩;rw [← HD.out]; symm;rw [decide_eq_true_eq];have h1:=hs.out
    rwa [List.take_of_length_le (by omega),List.take_of_length_le (by have:=Hl.out; omega)] at h1
 ·have hb:((l1.length:Int) != (l2.length:Int))=true:=by rw [bne_iff_ne]; omega
  have Hl:=ι hl;clear hl
  go_enter Tryz.func24,Tryz.ntmps24
  go_wp2;go_ret;exact ⟨Rg.ret_bool (by rw [← HD.out]; symm; rw [decide_eq_false_iff_not]; intro hc; subst hc; exact Hl.out rfl),0,rfl⟩
theorem sameWords_b {v1 v2:Value} {l1 l2:List (List Int)} {w:World} {b:Bool} (h1:Rg.Rows w v1 l1) (h2:Rg.Rows w v2 l2) (hd:Hid (decide (l1=l2)=b)) :
  Calls Tryz.prog 24 #[v1,v2] w fun e w'=>e=.returned (.bool b)∧Below w.heap.size w w':=by
 refine (sameWords_q v1 v2 l1 l2 w h1 h2).mono ?_;rintro e w' ⟨rfl,k,rfl⟩;exact ⟨by rw [hd.out],Rg.drewN (Below.refl _ _) k⟩
theorem three10_any (w:World):Calls Tryz.prog 25 #[] w (GPost 3 [[1,0,2],[0,2,1]] w):=by
 go_enter Tryz.func25,Tryz.ntmps25
 go_upto_region 1 with (fail);generalize hW:w.alloc (.cells #[.int .i64 0,.slice none 0 0] 24)=W0
 have hsz:W0.heap.size=w.heap.size+1:=by rw [← hW]; simp
 have hbW:Below w.heap.size w W0:=by rw [← hW]; exact (Below.refl _ _).alloc (Nat.le_refl _) _
 have hc1:W0.cell? ⟨w.heap.size,0,none⟩=some (.int .i64 0):=by rw [← hW,Rg.cellNew]; rfl
 have hc2:W0.cell? ⟨w.heap.size,1,none⟩=some (.slice none 0 0):=by rw [← hW,Rg.cellNew]; rfl
 have hf1:∀ o,W0.frozen? ⟨w.heap.size,o,none⟩=false:=fun o=>by rw [← hW]; exact frozenNewN _ _ _ 0 _
 clear hW;refine Rg.wl ?_;have i1:=ints_new W0 3 [1,0,2] (by decide);have b1:Below W0.heap.size W0 _:=(Below.refl W0.heap.size W0).alloc (Nat.le_refl _) (.cells (([1,0,2]:List Int).map (Value.int .i64)).toArray 3);refine Rg.lr 1 (exec_flat _ _ 3 _ rfl [1,0,2] Tryz.underlying30 szInt zInt rfl (by decide) (by decide) rfl) ?_;go_frame;generalize W0.alloc (.cells (([1,0,2]:List Int).map (Value.int .i64)).toArray 3)=W1 at *;have i2:=ints_new W1 3 [0,2,1] (by decide);have b2:Below W1.heap.size W1 _:=(Below.refl W1.heap.size W1).alloc (Nat.le_refl _) (.cells (([0,2,1]:List Int).map (Value.int .i64)).toArray 3);refine Rg.lr 2 (exec_flat _ _ 3 _ rfl [0,2,1] Tryz.underlying30 szInt zInt rfl (by decide) (by decide) rfl) ?_;go_frame;generalize W1.alloc (.cells (([0,2,1]:List Int).map (Value.int .i64)).toArray 3)=W2 at *
 have g3:=rowsF_new (B:=w.heap.size+1) (w:=W2) 30 [.slice (some ⟨W0.heap.size,0,none⟩) 3 3,.slice (some ⟨W1.heap.size,0,none⟩) 3 3] [[1,0,2],[0,2,1]] rfl (by simp) (by
  have s1:=b1.size;have s2:=b2.size;intro i h h2
  match i,h,h2 with
  | 0,_,_=>exact ⟨(i1.below b2),(Rg.Fresh.mk _ _ _ _).mono (by omega)⟩
  | 1,_,_=>exact ⟨i2,(Rg.Fresh.mk _ _ _ _).mono (by omega)⟩) (by have s1:=b1.size; have s2:=b2.size; omega)
 have bz:Below W2.heap.size W2 _:=(Below.refl W2.heap.size W2).alloc (Nat.le_refl _) (.cells #[.slice (some ⟨W0.heap.size,0,none⟩) 3 3,.slice (some ⟨W1.heap.size,0,none⟩) 3 3] 30);refine Rg.lr 3 (exec_buildP (u1:=.slice (some ⟨W0.heap.size,0,none⟩) 3 3) (u2:=.slice (some ⟨W1.heap.size,0,none⟩) 3 3) _ _ rfl rfl rfl (run_buildP2 _ _ _ ⟨_,_,_,rfl⟩ ⟨_,_,_,rfl⟩)) ?_;go_frame;have hb3:=(Rg.acc b1 (Rg.acc b2 bz));clear bz b1 i1 b2 i2;have g4:RowsF (w.heap.size+1) (W2.alloc (.cells #[.slice (some ⟨W0.heap.size,0,none⟩) 3 3,.slice (some ⟨W1.heap.size,0,none⟩) 3 3] 30)) (.slice (some ⟨W2.heap.size,0,none⟩) 2 2) [[1,0,2],[0,2,1]]:=g3;clear g3;generalize W2.alloc (.cells #[.slice (some ⟨W0.heap.size,0,none⟩) 3 3,.slice (some ⟨W1.heap.size,0,none⟩) 3 3] 30)=Z at *;refine Rg.lr 4 (exec_buildG (d:=3) _ _ rfl rfl rfl) ?_;go_frame;obtain ⟨kc,kf⟩:=Rg.bcell hb3
 have lt1:w.heap.size<W0.heap.size:=by omega
 have r0:=(kc _ 0 lt1).trans hc1;have r1:=(kc _ 1 lt1).trans hc2;have rf:=fun o=>(kf _ o lt1).trans (hf1 o);obtain ⟨p0,p1,p2⟩:=group_set (.int .i64 3) (.slice (some ⟨W2.heap.size,0,none⟩) 2 2) r0 r1 (Rg.acc hbW hb3) (by omega);have hR:=((g4.set w.heap.size 0 (.int .i64 3) (by omega)).set w.heap.size 1 (.slice (some ⟨W2.heap.size,0,none⟩) 2 2) (by omega)).mono (B':=w.heap.size) (by omega);refine Rg.list_skip none rfl rfl (Rg.exec_store _ _ _ rfl _ rfl _ rfl (run_storeG 3 _ 2 2 r0 r1 (rf 0) (rf 1))) ?_;go_frame;generalize (Z.setCell ⟨w.heap.size,0,none⟩ (.int .i64 3)).setCell ⟨w.heap.size,1,none⟩ (.slice (some ⟨W2.heap.size,0,none⟩) 2 2)=W6 at *;have H:=ι (And.intro p0 (And.intro p1 (And.intro p2 hR)));clear hc1 hc2 hf1 kc kf r0 r1 rf p0 p1 p2 hR g4;go_wp2;exact bodyPost_ret (results_cellG rfl _ rfl H.out.1 H.out.2.1) rfl ⟨_,_,_,rfl,H.out.2.2.2,H.out.2.2.1⟩
theorem clLg10 (args:Array Value) (w:World):(callFunc 39 args).run Tryz.prog w=.ok (.enter 39 args) w:=by kernel_rfl
def bg8 (d:Int) (ll:List (List Int)):Bool:=lg ll || (decide (8<d) && decide (d≤64))
theorem big10_any {B:Nat} (gv:Value) (d:Int) (ll:List (List Int)) (w:World) (h:Rg.RowsB B w gv ll) :
  Calls Tryz.prog 10 #[.agg #[.int .i64 d,gv]] w fun e w'=>e=.returned (.bool (bg8 d ll))∧Below w.heap.size w w':=by
 obtain ⟨ga,gc,rfl,_⟩:=h.shape;have H:=ι h;clear h;have K:=ι (Below.refl w.heap.size w)
 go_enter Tryz.func10,Tryz.ntmps10
 obtain ⟨bl,hbl⟩:∃ b,Hid (lg ll=b):=⟨_,ι rfl⟩;go_upto_region 0 with (fail);refine Rg.wl ?_;have hbx:=box2t w (.int .i64 d) (.slice ga ll.length gc) 24;refine Rg.lr 1 (Rg.exec_box _ _ rfl rfl) ?_;go_frame;have hb:=(Below.refl w.heap.size w).alloc (Nat.le_refl _) (.cells #[.int .i64 d,.slice ga ll.length gc] 24);generalize w.alloc (.cells #[.int .i64 d,.slice ga ll.length gc] 24)=w1 at *;replace H:=ι (H.out.below hb);replace K:=ι (Rg.acc K.out hb);clear hb;have A0:=ι hbx.1;have A1:=ι hbx.2;clear hbx;refine Rg.la 2 (.bool false) ?_;go_frame
 cases bl with
 | true =>
  go_upto_region 1 with (fail);refine Rg.wl ?_;refine Rg.lr 3 (Rg.exec_load (v:=.agg #[.int .i64 d,.slice ga ll.length gc]) _ _ rfl ⟨w.heap.size,0,none⟩ rfl (run_loadG A0.out.cell A1.out.cell)) ?_;go_frame;refine Rg.lk 4 (exec_fn1 39 _ _ rfl rfl (clLg10 _ _)) ?_;refine (LargeGroup_any _ d ll w1 H.out).mono ?_;rintro e1 w2 ⟨rfl,hb⟩;rw [hbl.out];refine ⟨_,rfl,?_⟩;go_frame;replace H:=ι (H.out.below hb);replace A0:=ι (A0.out.below hb);replace A1:=ι (A1.out.below hb);replace K:=ι (Rg.acc K.out hb);clear hb;refine Rg.lm 5 (.bool true) ?_;go_frame;refine listW_pass (some 6) (by kernel_rfl) rfl ?_;go_frame;refine listW_pass (some 7) (by kernel_rfl) rfl ?_;go_frame;refine listW_pass (some 8) (by kernel_rfl) rfl ?_;go_frame;refine listW_pass (some 9) (by kernel_rfl) rfl ?_;go_frame;refine listW_pass (some 10) (by kernel_rfl) rfl ?_;go_frame;refine listW_pass (some 11) (by kernel_rfl) rfl ?_;go_frame
  refine listW_pass (some 12) (by kernel_rfl) rfl ?_;go_frame;refine listW_pass (some 13) (by kernel_rfl) rfl ?_;go_frame;refine Rg.lr 14 (exec_pickT (v:=.bool true) _ _ _ rfl rfl rfl) ?_;go_frame;refine Rg.la 2 (.bool true) ?_;go_frame;have HR:=ι (show bg8 d ll=true by unfold bg8; rw [hbl.out]; simp; try omega);go_wp2;go_ret;exact ⟨by rw [HR.out]; rfl,K.out⟩
 | false =>
  by_cases hd1:8<d
  ·by_cases hd2:d≤64
   ·skip
    go_upto_region 1 with (fail);refine Rg.wl ?_;refine Rg.lr 3 (Rg.exec_load (v:=.agg #[.int .i64 d,.slice ga ll.length gc]) _ _ rfl ⟨w.heap.size,0,none⟩ rfl (run_loadG A0.out.cell A1.out.cell)) ?_;go_frame;refine Rg.lk 4 (exec_fn1 39 _ _ rfl rfl (clLg10 _ _)) ?_;refine (LargeGroup_any _ d ll w1 H.out).mono ?_;rintro e1 w13 ⟨rfl,hb⟩;rw [hbl.out];refine ⟨_,rfl,?_⟩;go_frame;replace H:=ι (H.out.below hb);replace A0:=ι (A0.out.below hb);replace A1:=ι (A1.out.below hb);replace K:=ι (Rg.acc K.out hb);clear hb;refine Rg.lm 5 (.bool false) ?_;go_frame;refine Rg.lW 6 (exec_fieldG0 _ rfl rfl) ?_;go_frame;refine Rg.lW 7 (Rg.exec_load (v:=.int .i64 d) _ _ rfl ⟨w.heap.size,0,none⟩ rfl (run_loadInt A0.out.cell)) ?_;go_frame;refine Rg.lW 8 (exec_bin (R:=.bool true) .gtr _ _ _ rfl rfl rfl (b_gtr _ Rg.dT)) ?_;go_frame;refine Rg.lW 9 (Rg.xm (.bool true) _ rfl rfl) ?_;go_frame;refine Rg.lW 10 (exec_fieldG0 _ rfl rfl) ?_;go_frame
    refine Rg.lW 11 (Rg.exec_load (v:=.int .i64 d) _ _ rfl ⟨w.heap.size,0,none⟩ rfl (run_loadInt A0.out.cell)) ?_;go_frame;refine Rg.lW 12 (exec_bin (R:=.bool true) .leq _ _ _ rfl rfl rfl (b_leq _ Rg.dT)) ?_;go_frame;refine Rg.lW 13 (exec_pickT (v:=.bool true) _ _ _ rfl rfl rfl) ?_;go_frame;refine Rg.lr 14 (exec_pickF (v:=.bool true) _ _ _ rfl rfl rfl) ?_;go_frame;refine Rg.la 2 (.bool true) ?_;go_frame;have HR:=ι (show bg8 d ll=true by unfold bg8; rw [hbl.out]; simp; try omega);go_wp2;go_ret;exact ⟨by rw [HR.out]; rfl,K.out⟩
   ·skip
    go_upto_region 1 with (fail);refine Rg.wl ?_;refine Rg.lr 3 (Rg.exec_load (v:=.agg #[.int .i64 d,.slice ga ll.length gc]) _ _ rfl ⟨w.heap.size,0,none⟩ rfl (run_loadG A0.out.cell A1.out.cell)) ?_;go_frame;refine Rg.lk 4 (exec_fn1 39 _ _ rfl rfl (clLg10 _ _)) ?_;refine (LargeGroup_any _ d ll w1 H.out).mono ?_;rintro e1 w24 ⟨rfl,hb⟩;rw [hbl.out];refine ⟨_,rfl,?_⟩;go_frame;replace H:=ι (H.out.below hb);replace A0:=ι (A0.out.below hb);replace A1:=ι (A1.out.below hb);replace K:=ι (Rg.acc K.out hb);clear hb;refine Rg.lm 5 (.bool false) ?_;go_frame;refine Rg.lW 6 (exec_fieldG0 _ rfl rfl) ?_;go_frame;refine Rg.lW 7 (Rg.exec_load (v:=.int .i64 d) _ _ rfl ⟨w.heap.size,0,none⟩ rfl (run_loadInt A0.out.cell)) ?_;go_frame;refine Rg.lW 8 (exec_bin (R:=.bool true) .gtr _ _ _ rfl rfl rfl (b_gtr _ Rg.dT)) ?_;go_frame;refine Rg.lW 9 (Rg.xm (.bool true) _ rfl rfl) ?_;go_frame;refine Rg.lW 10 (exec_fieldG0 _ rfl rfl) ?_;go_frame
    refine Rg.lW 11 (Rg.exec_load (v:=.int .i64 d) _ _ rfl ⟨w.heap.size,0,none⟩ rfl (run_loadInt A0.out.cell)) ?_;go_frame;refine Rg.lW 12 (exec_bin (R:=.bool false) .leq _ _ _ rfl rfl rfl (b_leq _ Rg.dF)) ?_;go_frame;refine Rg.lW 13 (exec_pickT (v:=.bool false) _ _ _ rfl rfl rfl) ?_;go_frame;refine Rg.lr 14 (exec_pickF (v:=.bool false) _ _ _ rfl rfl rfl) ?_;go_frame;refine Rg.la 2 (.bool false) ?_;go_frame;have HR:=ι (show bg8 d ll=false by unfold bg8; rw [hbl.out]; simp; try omega);go_wp2;go_ret;exact ⟨by rw [HR.out]; rfl,K.out⟩
  ·skip
   go_upto_region 1 with (fail);refine Rg.wl ?_;refine Rg.lr 3 (Rg.exec_load (v:=.agg #[.int .i64 d,.slice ga ll.length gc]) _ _ rfl ⟨w.heap.size,0,none⟩ rfl (run_loadG A0.out.cell A1.out.cell)) ?_;go_frame;refine Rg.lk 4 (exec_fn1 39 _ _ rfl rfl (clLg10 _ _)) ?_;refine (LargeGroup_any _ d ll w1 H.out).mono ?_;rintro e1 w35 ⟨rfl,hb⟩;rw [hbl.out];refine ⟨_,rfl,?_⟩;go_frame;replace H:=ι (H.out.below hb);replace A0:=ι (A0.out.below hb);replace A1:=ι (A1.out.below hb);replace K:=ι (Rg.acc K.out hb);clear hb;refine Rg.lm 5 (.bool false) ?_;go_frame;refine Rg.lW 6 (exec_fieldG0 _ rfl rfl) ?_;go_frame;refine Rg.lW 7 (Rg.exec_load (v:=.int .i64 d) _ _ rfl ⟨w.heap.size,0,none⟩ rfl (run_loadInt A0.out.cell)) ?_;go_frame;refine Rg.lW 8 (exec_bin (R:=.bool false) .gtr _ _ _ rfl rfl rfl (b_gtr _ Rg.dF)) ?_;go_frame;refine Rg.lW 9 (Rg.xm (.bool false) _ rfl rfl) ?_;go_frame;refine listW_pass (some 10) (by kernel_rfl) rfl ?_;go_frame
   refine listW_pass (some 11) (by kernel_rfl) rfl ?_;go_frame;refine listW_pass (some 12) (by kernel_rfl) rfl ?_;go_frame;refine Rg.lW 13 (exec_pickF (v:=.bool false) _ _ _ rfl rfl rfl) ?_;go_frame;refine Rg.lr 14 (exec_pickF (v:=.bool false) _ _ _ rfl rfl rfl) ?_;go_frame;refine Rg.la 2 (.bool false) ?_;go_frame;have HR:=ι (show bg8 d ll=false by unfold bg8; rw [hbl.out]; simp; try omega);go_wp2;go_ret;exact ⟨by rw [HR.out]; rfl,K.out⟩
def G3:List (List Nat):=[[1,0,2],[0,2,1]]
theorem gchk3:Ma.gchk 3 [[1,0,2],[0,2,1]]=0:=by decide
theorem bf3:BfE (mlets G3) 3 (bfs (mlets G3) 3 6):=⟨6,rfl,by decide +kernel⟩
theorem asc_only {S T:List (List Nat)} (h:S.Perm T) (hs:(S.map Ma.ofN).Pairwise (fun a b=>lessL b a=false)) (ht:(T.map Ma.ofN).Pairwise (fun a b=>lessL b a=false)):S=T:=by
 refine map_ofN_inj ?_;refine List.Perm.eq_of_pairwise (le:=fun a b=>lessL b a=false) ?_ hs ht (h.map _);intro a b _ _ h1 h2
 by_cases e:a=b
 ·exact e
 ·have:=lessL_total h2 e
  rw [h1] at this; cases this
theorem wdV_three {l:List (List Int)} {c:Int} (h:WdV 3 [[1,0,2],[0,2,1]] l c):l=[[],[2],[1],[2,1],[1,2],[1,2,1]]∧c=0:=by
 rcases h with ⟨h,_⟩ | ⟨_,N,gs,O,R,e1,e2,hN1,hgl,hgd,hch,⟨h2,_⟩ | ⟨h2,rfl,st,S,hbe,hbi,hp,hpw,rfl⟩⟩
 ·exact absurd gchk3 h
 ·exfalso
  obtain rfl:N=3:=by omega
  have h7:=prodK_720 (Cm.Gr.isG hgd) hch (by decide) (Nat.le_refl 3);rw [szD_len hch] at h7;omega
 ·obtain rfl:N=3:=by omega
  have e3:G3=gs:=map_ofN_inj (show G3.map Ma.ofN=gs.map Ma.ofN from e2);subst e3;have:=hbe.uniq bf3;subst this
  have hS:S=[[0,1,2],[0,2,1],[1,0,2],[1,2,0],[2,0,1],[2,1,0]]:=by
   have h0:([[0,1,2],[0,2,1],[1,0,2],[1,2,0],[2,0,1],[2,1,0]]:List (List Nat)).Perm (bfs (mlets G3) 3 6).1:=by decide +kernel
   exact asc_only (hp.trans h0.symm) hpw (by decide +kernel)
  subst hS;exact ⟨by decide +kernel,rfl⟩
theorem evV_three {u l:List Int} (hu:u.length≤4000) (ho:okW 2 u) (hl:l=Ma.ofN (evN 3 G3 u)):EvV 3 [[1,0,2],[0,2,1]] u l 0 :=
 .inr (.inr (.inr ⟨gchk3,hu,ho,3,G3,rfl,rfl,rfl,hl⟩))
theorem run_build6W (X:World) (u1 u2 u3 u4 u5 u6:Value) (h1:∃ a n c,u1=.slice a n c) (h2:∃ a n c,u2=.slice a n c) (h3:∃ a n c,u3=.slice a n c) (h4:∃ a n c,u4=.slice a n c) (h5:∃ a n c,u5=.slice a n c) (h6:∃ a n c,u6=.slice a n c) :
  (Instr.buildSlice 39 6 #[(0,u1),(1,u2),(2,u3),(3,u4),(4,u5),(5,u6)]).run Tryz.prog X=.ok (.slice (some ⟨X.heap.size,0,none⟩) 6 6) (X.alloc (.cells #[u1,u2,u3,u4,u5,u6] 26)):=by
 obtain ⟨i0,hi,hz0,hz1,hz2⟩:=info_parts infoWordB;obtain ⟨_,_,_,rfl⟩:=h1;obtain ⟨_,_,_,rfl⟩:=h2;obtain ⟨_,_,_,rfl⟩:=h3;obtain ⟨_,_,_,rfl⟩:=h4;obtain ⟨_,_,_,rfl⟩:=h5;obtain ⟨_,_,_,rfl⟩:=h6;refine run_buildSlice X 39 26 6 _ _ i0 _ Tryz.underlying39 hi hz0 (by rw [hz1]; decide) (by rw [hz1]; decide) ?_;generalize (fun x=>((Value.slice none 0 0).cells)[x % (Value.slice none 0 0).cells.size]!)=f;rw [hz1];have h1:Array.range (6*1)=#[0,1,2,3,4,5]:=rfl;simp [Instr.fill,Value.cells,h1]
theorem exec_build6W {o:Oper} {a:Act} {w w':World} {v u1 u2 u3 u4 u5 u6:Value} (x1 x2 x3 x4 x5 x6:Operand) (ho:o.op=.buildSlice 39 6 #[(0,x1),(1,x2),(2,x3),(3,x4),(4,x5),(5,x6)]) (h1:a.eval x1=u1) (h2:a.eval x2=u2) (h3:a.eval x3=u3) (h4:a.eval x4=u4) (h5:a.eval x5=u5) (h6:a.eval x6=u6)
  (hr:(Instr.buildSlice 39 6 #[(0,u1),(1,u2),(2,u3),(3,u4),(4,u5),(5,u6)]).run Tryz.prog w=.ok v w'):(execOp a.eval o).run Tryz.prog w=.ok (.value v) w':=by
 subst h1 h2 h3 h4 h5 h6;unfold execOp;simp only [ho,Sem.run_bind,Sem.run_pure];simp only [List.map_toArray,List.map_cons,List.map_nil];rw [hr];rfl
theorem rows6W {W:World} {u1 u2 u3 u4 u5 u6:Value} {l1 l2 l3 l4 l5 l6:List Int} (h1:NpI W u1 l1) (h2:NpI W u2 l2) (h3:NpI W u3 l3) (h4:NpI W u4 l4) (h5:NpI W u5 l5) (h6:NpI W u6 l6) :
  Rg.Rows (W.alloc (.cells #[u1,u2,u3,u4,u5,u6] 26)) (.slice (some ⟨W.heap.size,0,none⟩) 6 6) [l1,l2,l3,l4,l5,l6]:=by
 have hb:Below W.heap.size W (W.alloc (.cells #[u1,u2,u3,u4,u5,u6] 26)):=(Below.refl _ _).alloc (Nat.le_refl _) _;refine ⟨[u1,u2,u3,u4,u5,u6],Rg.BlkF.vals (Rg.BlkF.new W [u1,u2,u3,u4,u5,u6] 26 (Nat.le_refl _)) (by simp),rfl,fun i a b=>?_⟩
 match i,a,b with
 | 0,_,_=>exact (h1.below hb).i
 | 1,_,_=>exact (h2.below hb).i
 | 2,_,_=>exact (h3.below hb).i
 | 3,_,_=>exact (h4.below hb).i
 | 4,_,_=>exact (h5.below hb).i
 | 5,_,_=>exact (h6.below hb).i
theorem evals_yes {wv xv:Value} {u l:List Int} {w:World} (hu:Rg.Ints w wv u) (hx:Rg.Ints w xv l) (hul:u.length≤4000) (ho:okW 2 u) (hl:l=Ma.ofN (evN 3 G3 u)) :
  Calls Tryz.prog 27 #[wv,xv] w fun e w'=>e=.returned (.bool true)∧Below w.heap.size w w':=by
 obtain ⟨wa,wc,rfl,-⟩:=hu.shape;obtain ⟨xa,xc,rfl,-⟩:=hx.shape;have HV:=ι (evV_three hul ho hl);have HU:=ι (NpI.mk hu);have HX:=ι (NpI.mk hx);have K:=ι (Below.refl w.heap.size w);clear hu hx hl ho
 go_enter Tryz.func27,Tryz.ntmps27
 go_upto_region 0 with (fail);refine Rg.wl ?_;refine Rg.la 4 (.bool false) ?_;go_frame;go_upto_region 1 with (fail);refine Rg.wl ?_;refine Rg.lk 8 (exec_fn0 25 _ rfl (Bncl0 _ _)) ?_;refine (three10_any w).mono ?_;rintro e1 w1 ⟨ga,gn,gc,rfl,hgr,hb⟩;have hgr2:=hgr.rows;refine ⟨_,rfl,?_⟩;go_frame;replace HU:=ι (HU.out.below hb);replace HX:=ι (HX.out.below hb);replace K:=ι (Rg.acc K.out hb);clear hb;have GR:=ι (RsO.mk hgr2);refine Rg.lm 9 (.slice wa u.length wc) ?_;go_frame;clear hgr hgr2;refine Rg.lk 10 (exec_fn 13 _ _ _ rfl rfl rfl (Bncl1 _ _)) ?_;refine (fcEval_any _ _ 3 [[1,0,2],[0,2,1]] u w1 GR.out.r HU.out.i).mono ?_;rintro e1 w2 ⟨rv,rl,rc,rfl,hev,hri,hb⟩;obtain ⟨rfl,rfl⟩:=HV.out.uniq hev;obtain ⟨ra,rcc,rfl,-⟩:=hri.shape;clear hev;refine ⟨_,rfl,?_⟩;go_frame;replace HU:=ι (HU.out.below hb);replace HX:=ι (HX.out.below hb);replace GR:=ι (GR.out.below hb)
 replace K:=ι (Rg.acc K.out hb);clear hb;have HR:=ι (NpI.mk hri);refine Rg.lm 7 (.tuple #[.slice ra l.length rcc,.int .i64 0]) ?_;go_frame;refine Rg.lr 11 (exec_extract (v:=.slice ra l.length rcc) _ _ rfl rfl rfl) ?_;go_frame;refine Rg.lr 12 (exec_extract (v:=.int .i64 0) _ _ rfl rfl rfl) ?_;go_frame;refine Rg.la 5 (.slice ra l.length rcc) ?_;go_frame;refine Rg.la 6 (.int .i64 0) ?_;go_frame;clear hri GR;go_upto_region 2 with (fail);refine Rg.wl ?_;refine Rg.lm 13 (.slice ra l.length rcc) ?_;go_frame;refine Rg.lm 14 (.slice xa l.length xc) ?_;go_frame;refine Rg.lk 15 (exec_fn 15 _ _ _ rfl rfl rfl (Bncl2 _ _)) ?_;refine (Same_any (w0:=w2) (b:=true) HR.out.i HX.out.i (ι (decide_eq_true rfl)) (Below.refl _ _)).mono ?_;rintro e1 w3 ⟨rfl,hb⟩;refine ⟨_,rfl,?_⟩;go_frame;replace HU:=ι (HU.out.below hb);replace HX:=ι (HX.out.below hb);replace HR:=ι (HR.out.below hb);replace K:=ι (Rg.acc K.out hb)
 clear hb;refine Rg.lm 16 (.bool true) ?_;go_frame;refine Rg.lW 17 (Rg.xm (.int .i64 0) _ rfl rfl) ?_;go_frame;refine Rg.lW 18 (exec_eqI _ _ rfl rfl rfl rfl) ?_;go_frame;refine Rg.lr 19 (exec_pickT (v:=.bool true) _ _ _ rfl rfl rfl) ?_;go_frame;refine Rg.la 4 (.bool true) ?_;go_frame;go_wp2;go_ret;exact ⟨rfl,K.out⟩
theorem awake10_any (w:World):Calls Tryz.prog 11 #[] w fun e w'=>e=.returned (.bool true)∧Below w.heap.size w w':=by
 have K:=ι (Below.refl w.heap.size w)
 go_enter Tryz.func11,Tryz.ntmps11
 go_upto_region 0 with (fail);refine Rg.wl ?_;refine Rg.la 0 (.bool false) ?_;go_frame;go_upto_region 1 with (fail);refine Rg.wl ?_;refine Rg.lk 4 (exec_fn0 25 _ rfl (Bncl0 _ _)) ?_;refine (three10_any w).mono ?_;rintro e1 w1 ⟨ga,gn,gc,rfl,hgr,hb⟩;have hgr2:=hgr.rows;refine ⟨_,rfl,?_⟩;go_frame;replace K:=ι (Rg.acc K.out hb);clear hb;have GR:=ι (RsO.mk hgr2);clear hgr hgr2;refine Rg.lk 5 (exec_fn1 18 _ _ rfl rfl (Bncl3 _ _)) ?_;refine (fcWords_any _ 3 [[1,0,2],[0,2,1]] w1 GR.out.r (by decide)).mono ?_;rintro e1 w2 ⟨rv,rl,rc,rfl,hev,hri,hb⟩;obtain ⟨rfl,rfl⟩:=wdV_three hev;obtain ⟨ra,rcc,hsh,-⟩:=hri.shape;rw [show ([[],[2],[1],[2,1],[1,2],[1,2,1]]:List (List Int)).length=6 from rfl] at hsh;subst hsh;clear hev;refine ⟨_,rfl,?_⟩;go_frame;replace GR:=ι (GR.out.below hb);replace K:=ι (Rg.acc K.out hb);clear hb;have WR:=ι (RsO.mk hri);refine Rg.lm 3 (.tuple #[.slice ra 6 rcc,.int .i64 0]) ?_;go_frame
 refine Rg.lr 6 (exec_extract (v:=.slice ra 6 rcc) _ _ rfl rfl rfl) ?_;go_frame;refine Rg.lr 7 (exec_extract (v:=.int .i64 0) _ _ rfl rfl rfl) ?_;go_frame;refine Rg.la 1 (.slice ra 6 rcc) ?_;go_frame;refine Rg.la 2 (.int .i64 0) ?_;go_frame;clear hri GR;go_upto_region 2 with (fail);refine Rg.wl ?_;have hnew:=ints_new w2 3 [1,2] (by decide);refine Rg.lr 8 (exec_flat _ _ 2 _ rfl [1,2] Tryz.underlying26 szInt zInt rfl (by decide) (by decide) rfl) ?_;go_frame;have hb:=(Below.refl w2.heap.size w2).alloc (Nat.le_refl _) (.cells (([1,2]:List Int).map (Value.int .i64)).toArray 3);generalize w2.alloc (.cells (([1,2]:List Int).map (Value.int .i64)).toArray 3)=w3 at *;replace WR:=ι (WR.out.below hb);replace K:=ι (Rg.acc K.out hb);clear hb;have A1:=ι hnew;clear hnew;have hnew:=ints_new w3 3 [2,0,1] (by decide);refine Rg.lr 9 (exec_flat _ _ 3 _ rfl [2,0,1] Tryz.underlying30 szInt zInt rfl (by decide) (by decide) rfl) ?_;go_frame
 have hb:=(Below.refl w3.heap.size w3).alloc (Nat.le_refl _) (.cells (([2,0,1]:List Int).map (Value.int .i64)).toArray 3);generalize w3.alloc (.cells (([2,0,1]:List Int).map (Value.int .i64)).toArray 3)=w4 at *;replace WR:=ι (WR.out.below hb);replace A1:=ι (A1.out.below hb);replace K:=ι (Rg.acc K.out hb);clear hb;have A2:=ι hnew;clear hnew;refine Rg.lk 10 (exec_fn 27 _ _ _ rfl rfl rfl (Bncl4 _ _)) ?_;refine (evals_yes A1.out A2.out (by decide) (by unfold okW; decide) (by decide +kernel)).mono ?_;rintro e1 w5 ⟨rfl,hb⟩;refine ⟨_,rfl,?_⟩;go_frame;replace WR:=ι (WR.out.below hb);replace A1:=ι (A1.out.below hb);replace A2:=ι (A2.out.below hb);replace K:=ι (Rg.acc K.out hb);clear hb;refine Rg.lm 11 (.bool true) ?_;go_frame;have hnew:=ints_new w5 3 [2,1] (by decide);refine Rg.lW 12 (exec_flat _ _ 2 _ rfl [2,1] Tryz.underlying26 szInt zInt rfl (by decide) (by decide) rfl) ?_;go_frame
 have hb:=(Below.refl w5.heap.size w5).alloc (Nat.le_refl _) (.cells (([2,1]:List Int).map (Value.int .i64)).toArray 3);generalize w5.alloc (.cells (([2,1]:List Int).map (Value.int .i64)).toArray 3)=w6 at *;replace WR:=ι (WR.out.below hb);replace A1:=ι (A1.out.below hb);replace A2:=ι (A2.out.below hb);replace K:=ι (Rg.acc K.out hb);clear hb;have A3:=ι hnew;clear hnew;have hnew:=ints_new w6 3 [1,2,0] (by decide);refine Rg.lW 13 (exec_flat _ _ 3 _ rfl [1,2,0] Tryz.underlying30 szInt zInt rfl (by decide) (by decide) rfl) ?_;go_frame;have hb:=(Below.refl w6.heap.size w6).alloc (Nat.le_refl _) (.cells (([1,2,0]:List Int).map (Value.int .i64)).toArray 3);generalize w6.alloc (.cells (([1,2,0]:List Int).map (Value.int .i64)).toArray 3)=w7 at *;replace WR:=ι (WR.out.below hb);replace A1:=ι (A1.out.below hb);replace A2:=ι (A2.out.below hb);replace A3:=ι (A3.out.below hb)
 replace K:=ι (Rg.acc K.out hb);clear hb;have A4:=ι hnew;clear hnew;refine listW_ask (some 14) rfl rfl _ _ (exec_fn 27 _ _ _ rfl rfl rfl (Bncl4 _ _)) ?_;refine (evals_yes A3.out A4.out (by decide) (by unfold okW; decide) (by decide +kernel)).mono ?_;rintro e1 w8 ⟨rfl,hb⟩;refine ⟨_,rfl,?_⟩;go_frame;replace WR:=ι (WR.out.below hb);replace A1:=ι (A1.out.below hb);replace A2:=ι (A2.out.below hb);replace A3:=ι (A3.out.below hb);replace A4:=ι (A4.out.below hb);replace K:=ι (Rg.acc K.out hb);clear hb;refine Rg.lr 15 (exec_pickT (v:=.bool true) _ _ _ rfl rfl rfl) ?_;go_frame;refine Rg.lm 16 (.bool true) ?_;go_frame;refine Rg.lW 17 (Rg.xm (.int .i64 0) _ rfl rfl) ?_;go_frame;refine Rg.lW 18 (exec_eqI _ _ rfl rfl rfl rfl) ?_;go_frame;refine Rg.lr 19 (exec_pickT (v:=.bool true) _ _ _ rfl rfl rfl) ?_;go_frame;refine Rg.lm 20 (.bool true) ?_;go_frame;refine Rg.lW 21 (Rg.xm (.slice ra 6 rcc) _ rfl rfl) ?_;go_frame
 have hn0:NpI (w8.alloc (.cells #[] 3)) (.slice (some ⟨w8.heap.size,0,none⟩) 0 0) []:=NpI.mk (EX.nil (mb:=0) (fv:=.slice none 0 0) _).ints;refine Rg.lW 22 (Rg.exec_build0 slWord rfl w8) ?_;go_frame;have hb:=(Below.refl w8.heap.size w8).alloc (Nat.le_refl _) (.cells #[] 3);generalize w8.alloc (.cells #[] 3)=w9 at *;replace WR:=ι (WR.out.below hb);replace A1:=ι (A1.out.below hb);replace A2:=ι (A2.out.below hb);replace A3:=ι (A3.out.below hb);replace A4:=ι (A4.out.below hb);replace K:=ι (Rg.acc K.out hb);clear hb;have B0:=ι hn0;clear hn0;have hnew:=ints_new w9 3 [2] (by decide);refine Rg.lW 23 (exec_flat _ _ 1 _ rfl [2] Tryz.underlying26 szInt zInt rfl (by decide) (by decide) rfl) ?_;go_frame;have hb:=(Below.refl w9.heap.size w9).alloc (Nat.le_refl _) (.cells (([2]:List Int).map (Value.int .i64)).toArray 3);generalize w9.alloc (.cells (([2]:List Int).map (Value.int .i64)).toArray 3)=w10 at *
 replace WR:=ι (WR.out.below hb);replace A1:=ι (A1.out.below hb);replace A2:=ι (A2.out.below hb);replace A3:=ι (A3.out.below hb);replace A4:=ι (A4.out.below hb);replace B0:=ι (B0.out.below hb);replace K:=ι (Rg.acc K.out hb);clear hb;have B1:=ι hnew;clear hnew;have hnew:=ints_new w10 3 [1] (by decide);refine Rg.lW 24 (exec_flat _ _ 1 _ rfl [1] Tryz.underlying26 szInt zInt rfl (by decide) (by decide) rfl) ?_;go_frame;have hb:=(Below.refl w10.heap.size w10).alloc (Nat.le_refl _) (.cells (([1]:List Int).map (Value.int .i64)).toArray 3);generalize w10.alloc (.cells (([1]:List Int).map (Value.int .i64)).toArray 3)=w11 at *;replace WR:=ι (WR.out.below hb);replace A1:=ι (A1.out.below hb);replace A2:=ι (A2.out.below hb);replace A3:=ι (A3.out.below hb);replace A4:=ι (A4.out.below hb);replace B0:=ι (B0.out.below hb);replace B1:=ι (B1.out.below hb);replace K:=ι (Rg.acc K.out hb)
 clear hb;have B2:=ι hnew;clear hnew;have hnew:=ints_new w11 3 [2,1] (by decide);refine Rg.lW 25 (exec_flat _ _ 2 _ rfl [2,1] Tryz.underlying26 szInt zInt rfl (by decide) (by decide) rfl) ?_;go_frame;have hb:=(Below.refl w11.heap.size w11).alloc (Nat.le_refl _) (.cells (([2,1]:List Int).map (Value.int .i64)).toArray 3);generalize w11.alloc (.cells (([2,1]:List Int).map (Value.int .i64)).toArray 3)=w12 at *;replace WR:=ι (WR.out.below hb);replace A1:=ι (A1.out.below hb);replace A2:=ι (A2.out.below hb);replace A3:=ι (A3.out.below hb);replace A4:=ι (A4.out.below hb);replace B0:=ι (B0.out.below hb);replace B1:=ι (B1.out.below hb);replace B2:=ι (B2.out.below hb);replace K:=ι (Rg.acc K.out hb);clear hb;have B3:=ι hnew;clear hnew;have hnew:=ints_new w12 3 [1,2] (by decide);refine Rg.lW 26 (exec_flat _ _ 2 _ rfl [1,2] Tryz.underlying26 szInt zInt rfl (by decide) (by decide) rfl) ?_;go_frame
 have hb:=(Below.refl w12.heap.size w12).alloc (Nat.le_refl _) (.cells (([1,2]:List Int).map (Value.int .i64)).toArray 3);generalize w12.alloc (.cells (([1,2]:List Int).map (Value.int .i64)).toArray 3)=w13 at *;replace WR:=ι (WR.out.below hb);replace A1:=ι (A1.out.below hb);replace A2:=ι (A2.out.below hb);replace A3:=ι (A3.out.below hb);replace A4:=ι (A4.out.below hb);replace B0:=ι (B0.out.below hb);replace B1:=ι (B1.out.below hb);replace B2:=ι (B2.out.below hb);replace B3:=ι (B3.out.below hb);replace K:=ι (Rg.acc K.out hb);clear hb;have B4:=ι hnew;clear hnew;have hnew:=ints_new w13 3 [1,2,1] (by decide);refine Rg.lW 27 (exec_flat _ _ 3 _ rfl [1,2,1] Tryz.underlying26 szInt zInt rfl (by decide) (by decide) rfl) ?_;go_frame;have hb:=(Below.refl w13.heap.size w13).alloc (Nat.le_refl _) (.cells (([1,2,1]:List Int).map (Value.int .i64)).toArray 3);generalize w13.alloc (.cells (([1,2,1]:List Int).map (Value.int .i64)).toArray 3)=w14 at *
 replace WR:=ι (WR.out.below hb);replace A1:=ι (A1.out.below hb);replace A2:=ι (A2.out.below hb);replace A3:=ι (A3.out.below hb);replace A4:=ι (A4.out.below hb);replace B0:=ι (B0.out.below hb);replace B1:=ι (B1.out.below hb);replace B2:=ι (B2.out.below hb);replace B3:=ι (B3.out.below hb);replace B4:=ι (B4.out.below hb);replace K:=ι (Rg.acc K.out hb);clear hb;have B5:=ι hnew;clear hnew;have hr6:=rows6W B0.out (NpI.mk B1.out) (NpI.mk B2.out) (NpI.mk B3.out) (NpI.mk B4.out) (NpI.mk B5.out);refine Rg.lW 28 (exec_build6W (u1:=.slice (some ⟨w8.heap.size,0,none⟩) 0 0) (u2:=.slice (some ⟨w9.heap.size,0,none⟩) 1 1) (u3:=.slice (some ⟨w10.heap.size,0,none⟩) 1 1) (u4:=.slice (some ⟨w11.heap.size,0,none⟩) 2 2) (u5:=.slice (some ⟨w12.heap.size,0,none⟩) 2 2) (u6:=.slice (some ⟨w13.heap.size,0,none⟩) 3 3) _ _ _ _ _ _ rfl rfl rfl rfl rfl rfl rfl (run_build6W w14 _ _ _ _ _ _ ⟨_,_,_,rfl⟩ ⟨_,_,_,rfl⟩ ⟨_,_,_,rfl⟩ ⟨_,_,_,rfl⟩ ⟨_,_,_,rfl⟩ ⟨_,_,_,rfl⟩)) ?_;go_frame
 have hb:=(Below.refl w14.heap.size w14).alloc (Nat.le_refl _) (.cells #[.slice (some ⟨w8.heap.size,0,none⟩) 0 0,.slice (some ⟨w9.heap.size,0,none⟩) 1 1,.slice (some ⟨w10.heap.size,0,none⟩) 1 1,.slice (some ⟨w11.heap.size,0,none⟩) 2 2,.slice (some ⟨w12.heap.size,0,none⟩) 2 2,.slice (some ⟨w13.heap.size,0,none⟩) 3 3] 26);generalize w14.alloc (.cells #[.slice (some ⟨w8.heap.size,0,none⟩) 0 0,.slice (some ⟨w9.heap.size,0,none⟩) 1 1,.slice (some ⟨w10.heap.size,0,none⟩) 1 1,.slice (some ⟨w11.heap.size,0,none⟩) 2 2,.slice (some ⟨w12.heap.size,0,none⟩) 2 2,.slice (some ⟨w13.heap.size,0,none⟩) 3 3] 26)=w15 at *;replace WR:=ι (WR.out.below hb);replace A1:=ι (A1.out.below hb);replace A2:=ι (A2.out.below hb);replace A3:=ι (A3.out.below hb);replace A4:=ι (A4.out.below hb);replace B0:=ι (B0.out.below hb);replace B1:=ι (B1.out.below hb);replace B2:=ι (B2.out.below hb)
 replace B3:=ι (B3.out.below hb);replace B4:=ι (B4.out.below hb);replace B5:=ι (B5.out.below hb);replace K:=ι (Rg.acc K.out hb);clear hb;have R6:=ι (RsO.mk hr6);clear hr6;refine listW_ask (some 29) rfl rfl _ _ (exec_fn 24 _ _ _ rfl rfl rfl (Bncl5 _ _)) ?_;refine (sameWords_b (b:=true) WR.out.r R6.out.r (ι (decide_eq_true rfl))).mono ?_;rintro e1 w16 ⟨rfl,hb⟩;refine ⟨_,rfl,?_⟩;go_frame;replace WR:=ι (WR.out.below hb);replace A1:=ι (A1.out.below hb);replace A2:=ι (A2.out.below hb);replace A3:=ι (A3.out.below hb);replace A4:=ι (A4.out.below hb);replace B0:=ι (B0.out.below hb);replace B1:=ι (B1.out.below hb);replace B2:=ι (B2.out.below hb);replace B3:=ι (B3.out.below hb);replace B4:=ι (B4.out.below hb);replace B5:=ι (B5.out.below hb);replace R6:=ι (R6.out.below hb);replace K:=ι (Rg.acc K.out hb);clear hb;refine Rg.lr 30 (exec_pickT (v:=.bool true) _ _ _ rfl rfl rfl) ?_;go_frame
 refine Rg.la 0 (.bool true) ?_;go_frame;go_wp2;go_ret;exact ⟨rfl,K.out⟩
end Go.Proofs.YtdnmmibchbceeaaGreat

set_option linter.unusedVariables false
namespace Go.Proofs.YtdnmmibchbceeaaGreat
open Go.RowKit
open Go.Proofs
open Go.ChangeShapes Go.WideShapes Go.Deep Go.Joins
attribute [local irreducible] Go.Calls
section
variable {H:Type} {enc:TypeId × Value→H}
theorem readG {W:World} {base:Nat} {r:Reach} {v:Value} {d:DataW H} {p:List MemPlace} (hv:Value.okWide Tryz.prog W r base 24 v) (h:DataW.Trod enc Tryz.prog W 0 (fun _=>true) true 24 v d p) :
  ∃ (dd:Int) (gv:Value) (ll:List (List Int)),v=.agg #[.int .i64 dd,gv]∧Rg.RowsB maxLen W gv ll:=by
 obtain ⟨c0,c1,y0,y1,m,rfl,rfl,rfl,hy0,hy1⟩:=open_agg2 Tryz.underlying24 (by kernel_rfl) cells24 hv h;obtain ⟨a,e0,_,_⟩:=DataW.trod_int Tryz.underlying3 hy0;simp at e0;subst e0
 rcases open_int_rows Tryz.underlying22 Tryz.underlying30 Tryz.underlying3 cells39 cells3 hy1 with ⟨hcs,_⟩ | ⟨a1,len,cap,A,L,C,Z,hcs,_,hl,hm,_,hrow⟩
 ·obtain rfl:c1=.slice none 0 0:=by simpa using hcs
  exact ⟨a,_,[],rfl,[],⟨none,0,rfl,by simp,Nat.zero_le _,by simp,fun h=>by simp at h⟩,rfl,fun i h=>by simp at h⟩
 ·obtain rfl:c1=.slice (some a1) len cap:=by simpa using hcs
  refine ⟨a,_,(List.range len).map fun r=>(Z r).take (L r),rfl,(List.range len).map fun r=>.slice (A r) (L r) (C r),⟨some a1,cap,by simp,by simp; exact hl,hm,by simp; omega,fun h0=>?_⟩,by simp,fun i h1 h2=>?_⟩
  ·simp only [List.length_map,List.length_range] at h0
   obtain ⟨hc0,_⟩:=hrow 0 (by omega)
   have ha:a1=⟨a1.block,a1.off,none⟩:=by
    have:=spot_none (a:=a1) (by simpa [Addr.add] using hc0)
    cases a1; simp at this; subst this; rfl
   refine ⟨a1.block,a1.off,by rw [← ha],lt_of_cell (a:=a1) (by simpa [Addr.add] using hc0),fun i hi=>?_⟩;simp only [List.length_map,List.length_range] at hi;rw [← add_none ha i,(hrow i (by omega)).1];simp
  ·simp only [List.length_map,List.length_range] at h1
   simp only [List.getElem_map,List.getElem_range];obtain ⟨_,hLC,hCm,hZ,_,hn,hcell⟩:=hrow i (by omega)
   have hlen:((Z i).take (L i)).length=L i:=by rw [List.length_take]; omega
   refine ⟨A i,C i,by rw [List.length_map,hlen],by rw [List.length_map,hlen]; exact hLC,hCm,by rw [List.length_map,hlen]; omega,fun h0=>?_⟩;rw [List.length_map,hlen] at h0
   cases hA:A i with
   | none=>have:=hn hA; omega
   | some a' =>
    obtain ⟨_,hcl⟩:=hcell a' hA;have hc0:=hcl 0 (by omega)
    have ha:a'=⟨a'.block,a'.off,none⟩:=by
     have:=spot_none (a:=a') (by simpa [Addr.add] using hc0)
     cases a'; simp at this; subst this; rfl
    refine ⟨a'.block,a'.off,by rw [← ha],lt_of_cell (a:=a') (by simpa [Addr.add] using hc0),fun c hc=>?_⟩;rw [List.length_map,hlen] at hc;rw [← add_none ha c,hcl c (by omega)];simp [List.getD,List.getElem?_eq_getElem (show c<(Z i).length by omega)]
end
end Go.Proofs.YtdnmmibchbceeaaGreat

namespace Go.Proofs.YtdnmmibchbceeaaGreat
open Go.RowKit
open Go.Proofs
open Go.Proofs.Ob
open Go.Proofs.Cm (Gd Gr IsChain ap)
attribute [local irreducible] Go.Calls Go.wpList
theorem Bocl0 (args:Array Value) (w:World):(callFunc 10 args).run Tryz.prog w=.ok (.enter 10 args) w:=by kernel_rfl
theorem Bocl1 (args:Array Value) (w:World):(callFunc 11 args).run Tryz.prog w=.ok (.enter 11 args) w:=by kernel_rfl
theorem Bocl2 (args:Array Value) (w:World):(callFunc 12 args).run Tryz.prog w=.ok (.enter 12 args) w:=by kernel_rfl
theorem Bocl4 (args:Array Value) (w:World):(callFunc 14 args).run Tryz.prog w=.ok (.enter 14 args) w:=by kernel_rfl
open Go.ChangeShapes Go.WideShapes Go.Deep Go.Joins in
theorem readW {H:Type} {enc:TypeId × Value→H} {W:World} {base:Nat} {r:Reach} {v:Value} {d:DataW H} {p:List MemPlace} (h:DataW.Trod enc Tryz.prog W 0 (fun _=>true) true 26 v d p) (hv:∃ x,v.cells.toList=[x]∧v=x) :
  ∃ l,Rg.IntsB maxLen W v l:=by
 obtain ⟨fuel,hf⟩:=h;obtain ⟨x,hc,rfl⟩:=hv;rw [hc] at hf
 rcases open_ints Tryz.underlying26 Tryz.underlying3 cells3 hf with ⟨hcs,_⟩ | ⟨a,len,cap,zs,hcs,_,hl,hm,hz,_,hcell,_⟩
 ·obtain rfl:v=.slice none 0 0:=by simpa using hcs
  exact ⟨[],none,0,rfl,by simp,Nat.zero_le _,by simp,fun h=>by simp at h⟩
 ·obtain rfl:v=.slice (some a) len cap:=by simpa using hcs
  simp only [if_true] at hz
  have hlen:(zs.take len).length=len:=by rw [List.length_take]; omega
  refine ⟨zs.take len,some a,cap,by rw [List.length_map,hlen],by rw [List.length_map,hlen]; exact hl,hm,by rw [List.length_map,hlen]; omega,fun h0=>?_⟩;rw [List.length_map,hlen] at h0;have hc0:=hcell 0 (by omega)
  have ha:a=⟨a.block,a.off,none⟩:=by
   have:=spot_none (a:=a) (by simpa [Addr.add] using hc0)
   cases a; simp at this; subst this; rfl
  refine ⟨a.block,a.off,by rw [← ha],lt_of_cell (a:=a) (by simpa [Addr.add] using hc0),fun i hi=>?_⟩;rw [List.length_map,hlen] at hi;rw [← add_none ha i,hcell i (by omega)];simp [List.getD,List.getElem?_eq_getElem (show i<zs.length by omega)]
structure IBw (w:World) (v:Value) (l:List Int):Prop where
 i:Rg.IntsB maxLen w v l
theorem IBw.below {w w':World} {v:Value} {l:List Int} (h:IBw w v l) (hb:Below w.heap.size w w'):IBw w' v l:=⟨Rg.IntsB.below h.i hb⟩
theorem bg8_lg {d:Int} {ll:List (List Int)} (h:bg8 d ll=false):lg ll=false:=by
 unfold bg8 at h;rw [Bool.or_eq_false_iff] at h;exact h.1
theorem FactorEvals_any (gv:Value) (d:Int) (ll:List (List Int)) (wv:Value) (u:List Int) (w:World) (h:Rg.RowsB maxLen w gv ll) (hu:Rg.IntsB maxLen w wv u) :
  Calls Tryz.prog 3 #[.agg #[.int .i64 d,gv],wv] w fun ed w'=>ed=.returned (.bool true)∧Below w.heap.size w w':=by
 obtain ⟨ga,gc,rfl,_⟩:=h.shape;obtain ⟨wa,wc,rfl,-,hum,hul,-⟩:=hu.shape;have H1:=ι h;have H3:=ι (IBw.mk hu);clear h hu;have K:=ι (Below.refl w.heap.size w)
 go_enter Tryz.func3,Tryz.ntmps3
 obtain ⟨b1,hb1⟩:∃ b,Hid (bg8 d ll=b):=⟨_,ι rfl⟩;go_upto_region 0 with (fail);refine Rg.wl ?_;have hbx:=box2t w (.int .i64 d) (.slice ga ll.length gc) 24;refine Rg.lr 2 (Rg.exec_box _ _ rfl rfl) ?_;go_frame;have hb:=(Below.refl w.heap.size w).alloc (Nat.le_refl _) (.cells #[.int .i64 d,.slice ga ll.length gc] 24);generalize w.alloc (.cells #[.int .i64 d,.slice ga ll.length gc] 24)=w1 at *;replace H1:=ι (H1.out.below hb);replace H3:=ι (H3.out.below hb);replace K:=ι (Rg.acc K.out hb);clear hb;have A0:=ι hbx.1;have A1:=ι hbx.2;clear hbx;refine Rg.la 4 (.bool false) ?_;go_frame
 cases b1 with
 | true =>
  go_upto_region 1 with (fail);refine Rg.wl ?_;refine Rg.lr 10 (Rg.exec_load (v:=.agg #[.int .i64 d,.slice ga ll.length gc]) _ _ rfl ⟨w.heap.size,0,none⟩ rfl (run_loadG A0.out.cell A1.out.cell)) ?_;go_frame;refine Rg.lk 11 (exec_fn1 10 _ _ rfl rfl (Bocl0 _ _)) ?_;refine (big10_any _ d ll w1 H1.out).mono ?_;rintro e1 w2 ⟨rfl,hb⟩;rw [hb1.out];refine ⟨_,rfl,?_⟩;go_frame;replace H1:=ι (H1.out.below hb);replace H3:=ι (H3.out.below hb);replace A0:=ι (A0.out.below hb);replace A1:=ι (A1.out.below hb);replace K:=ι (Rg.acc K.out hb);clear hb;refine Rg.lm 12 (.bool true) ?_;go_frame;refine listW_pass (some 13) (by kernel_rfl) rfl ?_;go_frame;refine listW_pass (some 14) (by kernel_rfl) rfl ?_;go_frame;refine listW_pass (some 15) (by kernel_rfl) rfl ?_;go_frame;refine Rg.lr 16 (exec_pickT (v:=.bool true) _ _ _ rfl rfl rfl) ?_;go_frame;go_upto_region 2 with (fail);refine Rg.wl ?_;refine Rg.lk 17 (exec_fn0 11 _ rfl (Bocl1 _ _)) ?_
  refine (awake10_any w2).mono ?_;rintro e1 w3 ⟨rfl,hb⟩;refine ⟨_,rfl,?_⟩;go_frame;replace H1:=ι (H1.out.below hb);replace H3:=ι (H3.out.below hb);replace A0:=ι (A0.out.below hb);replace A1:=ι (A1.out.below hb);replace K:=ι (Rg.acc K.out hb);clear hb;refine Rg.la 4 (.bool true) ?_;go_frame;go_wp2;go_ret;exact ⟨rfl,K.out⟩
 | false =>
  by_cases hlong:4010<u.length
  case pos =>
   go_upto_region 1 with (fail);refine Rg.wl ?_;refine Rg.lr 10 (Rg.exec_load (v:=.agg #[.int .i64 d,.slice ga ll.length gc]) _ _ rfl ⟨w.heap.size,0,none⟩ rfl (run_loadG A0.out.cell A1.out.cell)) ?_;go_frame;refine Rg.lk 11 (exec_fn1 10 _ _ rfl rfl (Bocl0 _ _)) ?_;refine (big10_any _ d ll w1 H1.out).mono ?_;rintro e1 w54 ⟨rfl,hb⟩;rw [hb1.out];refine ⟨_,rfl,?_⟩;go_frame;replace H1:=ι (H1.out.below hb);replace H3:=ι (H3.out.below hb);replace A0:=ι (A0.out.below hb);replace A1:=ι (A1.out.below hb);replace K:=ι (Rg.acc K.out hb);clear hb;refine Rg.lm 12 (.bool false) ?_;go_frame;refine Rg.lW 13 (Rg.xm (.slice wa u.length wc) _ rfl rfl) ?_;go_frame;refine Rg.lW 14 (exec_len _ _ _ rfl Tryz.underlying26 _ _ _ rfl) ?_;go_frame;refine Rg.lW 15 (exec_bin (R:=.bool true) .gtr _ _ _ rfl rfl rfl (b_gtr _ Rg.dT)) ?_;go_frame;refine Rg.lr 16 (exec_pickF (v:=.bool true) _ _ _ rfl rfl rfl) ?_;go_frame
   go_upto_region 2 with (fail);refine Rg.wl ?_;refine Rg.lk 17 (exec_fn0 11 _ rfl (Bocl1 _ _)) ?_;refine (awake10_any w54).mono ?_;rintro e1 w55 ⟨rfl,hb⟩;refine ⟨_,rfl,?_⟩;go_frame;replace H1:=ι (H1.out.below hb);replace H3:=ι (H3.out.below hb);replace A0:=ι (A0.out.below hb);replace A1:=ι (A1.out.below hb);replace K:=ι (Rg.acc K.out hb);clear hb;refine Rg.la 4 (.bool true) ?_;go_frame;go_wp2;go_ret;exact ⟨rfl,K.out⟩
  case neg =>
   go_upto_region 1 with (fail);refine Rg.wl ?_;refine Rg.lr 10 (Rg.exec_load (v:=.agg #[.int .i64 d,.slice ga ll.length gc]) _ _ rfl ⟨w.heap.size,0,none⟩ rfl (run_loadG A0.out.cell A1.out.cell)) ?_;go_frame;refine Rg.lk 11 (exec_fn1 10 _ _ rfl rfl (Bocl0 _ _)) ?_;refine (big10_any _ d ll w1 H1.out).mono ?_;rintro e1 w156 ⟨rfl,hb⟩;rw [hb1.out];refine ⟨_,rfl,?_⟩;go_frame;replace H1:=ι (H1.out.below hb);replace H3:=ι (H3.out.below hb);replace A0:=ι (A0.out.below hb);replace A1:=ι (A1.out.below hb);replace K:=ι (Rg.acc K.out hb);clear hb;refine Rg.lm 12 (.bool false) ?_;go_frame;refine Rg.lW 13 (Rg.xm (.slice wa u.length wc) _ rfl rfl) ?_;go_frame;refine Rg.lW 14 (exec_len _ _ _ rfl Tryz.underlying26 _ _ _ rfl) ?_;go_frame;refine Rg.lW 15 (exec_bin (R:=.bool false) .gtr _ _ _ rfl rfl rfl (b_gtr _ Rg.dF)) ?_;go_frame;refine Rg.lr 16 (exec_pickF (v:=.bool false) _ _ _ rfl rfl rfl) ?_;go_frame
   obtain ⟨hs1,hs2⟩:=lg_small (bg8_lg hb1.out);have HG:=ι (RsO.mk (show Rg.Rows w156 (.slice ga ll.length gc) ll from H1.out.small (by omega) (fun l hl=>by have:=hs2 l hl; omega)));have HU:=ι (NpI.mk (show Rg.Ints w156 (.slice wa u.length wc) u from H3.out.i.small (by omega)));clear hs1 hs2 H1 H3;go_upto_region 3 with (fail);refine Rg.wl ?_;refine Rg.lm 18 (.slice wa u.length wc) ?_;go_frame;refine Rg.lk 19 (exec_fn1 12 _ _ rfl rfl (Bocl2 _ _)) ?_;refine (Own_any _ u w156 HU.out.i (by omega)).mono ?_;rintro e1 w157 ⟨ov,rfl,hov,hb⟩;obtain ⟨oa,oc,rfl⟩:=Rg.row_shape hov;have hoi:=Rg.Ints.of_row hov (by omega);refine ⟨_,rfl,?_⟩;go_frame;replace A0:=ι (A0.out.below hb);replace A1:=ι (A1.out.below hb);replace HG:=ι (HG.out.below hb);replace HU:=ι (HU.out.below hb);replace K:=ι (Rg.acc K.out hb);clear hb;have OI:=ι (NpI.mk hoi);refine Rg.la 5 (.slice oa u.length oc) ?_;go_frame
   clear hov hoi;go_upto_region 4 with (fail);refine Rg.wl ?_;refine Rg.lr 21 (Rg.exec_load (v:=.agg #[.int .i64 d,.slice ga ll.length gc]) _ _ rfl ⟨w.heap.size,0,none⟩ rfl (run_loadG A0.out.cell A1.out.cell)) ?_;go_frame;refine Rg.lm 22 (.slice oa u.length oc) ?_;go_frame;refine Rg.lk 23 (exec_fn 13 _ _ _ rfl rfl rfl (Bncl1 _ _)) ?_;refine (fcEval_any _ _ d ll u w157 HG.out.r OI.out.i).mono ?_;rintro e1 w158 ⟨a1,l1,c1,rfl,hav,hai,hb⟩;obtain ⟨aa1,ac1,rfl,-⟩:=hai.shape;have HV1:=ι hav;clear hav;refine ⟨_,rfl,?_⟩;go_frame;replace A0:=ι (A0.out.below hb);replace A1:=ι (A1.out.below hb);replace HG:=ι (HG.out.below hb);replace HU:=ι (HU.out.below hb);replace OI:=ι (OI.out.below hb);replace K:=ι (Rg.acc K.out hb);clear hb;have A1i:=ι (NpI.mk hai);refine Rg.lm 20 (.tuple #[.slice aa1 l1.length ac1,.int .i64 c1]) ?_;go_frame;refine Rg.lr 24 (exec_extract (v:=.slice aa1 l1.length ac1) _ _ rfl rfl rfl) ?_;go_frame
   refine Rg.lr 25 (exec_extract (v:=.int .i64 c1) _ _ rfl rfl rfl) ?_;go_frame;refine Rg.la 6 (.slice aa1 l1.length ac1) ?_;go_frame;refine Rg.la 7 (.int .i64 c1) ?_;go_frame;clear hai;go_upto_region 5 with (fail);refine Rg.wl ?_;refine Rg.lr 27 (Rg.exec_load (v:=.agg #[.int .i64 d,.slice ga ll.length gc]) _ _ rfl ⟨w.heap.size,0,none⟩ rfl (run_loadG A0.out.cell A1.out.cell)) ?_;go_frame;refine Rg.lm 28 (.slice wa u.length wc) ?_;go_frame;refine Rg.lk 29 (exec_fn 14 _ _ _ rfl rfl rfl (Bocl4 _ _)) ?_;refine (r10Eval_any _ _ d ll u w158 HG.out.r HU.out.i).mono ?_;rintro e1 w159 ⟨a2,l2,c2,rfl,hav,hai,hb⟩;obtain ⟨aa2,ac2,rfl,-⟩:=hai.shape;have HV2:=ι hav;clear hav;refine ⟨_,rfl,?_⟩;go_frame;replace A0:=ι (A0.out.below hb);replace A1:=ι (A1.out.below hb);replace HG:=ι (HG.out.below hb);replace HU:=ι (HU.out.below hb);replace OI:=ι (OI.out.below hb);replace A1i:=ι (A1i.out.below hb)
   replace K:=ι (Rg.acc K.out hb);clear hb;have A2i:=ι (NpI.mk hai);refine Rg.lm 26 (.tuple #[.slice aa2 l2.length ac2,.int .i64 c2]) ?_;go_frame;refine Rg.lr 30 (exec_extract (v:=.slice aa2 l2.length ac2) _ _ rfl rfl rfl) ?_;go_frame;refine Rg.lr 31 (exec_extract (v:=.int .i64 c2) _ _ rfl rfl rfl) ?_;go_frame;refine Rg.la 8 (.slice aa2 l2.length ac2) ?_;go_frame;refine Rg.la 9 (.int .i64 c2) ?_;go_frame;clear hai;obtain ⟨rfl,rfl⟩:=HV1.out.uniq HV2.out;go_upto_region 6 with (fail);refine Rg.wl ?_;refine Rg.lm 32 (.slice aa1 l1.length ac1) ?_;go_frame;refine Rg.lm 33 (.slice aa2 l1.length ac2) ?_;go_frame;refine Rg.lk 34 (exec_fn 15 _ _ _ rfl rfl rfl (Bncl2 _ _)) ?_;refine (Same_any (w0:=w159) (b:=true) A1i.out.i A2i.out.i (ι (decide_eq_true rfl)) (Below.refl _ _)).mono ?_;rintro e1 w160 ⟨rfl,hb⟩;refine ⟨_,rfl,?_⟩;go_frame;replace A0:=ι (A0.out.below hb);replace A1:=ι (A1.out.below hb)
   replace HG:=ι (HG.out.below hb);replace HU:=ι (HU.out.below hb);replace OI:=ι (OI.out.below hb);replace A1i:=ι (A1i.out.below hb);replace A2i:=ι (A2i.out.below hb);replace K:=ι (Rg.acc K.out hb);clear hb;refine Rg.lm 35 (.bool true) ?_;go_frame;refine Rg.lW 36 (Rg.xm (.int .i64 c1) _ rfl rfl) ?_;go_frame;refine Rg.lW 37 (Rg.xm (.int .i64 c1) _ rfl rfl) ?_;go_frame;refine Rg.lW 38 (exec_eqI _ _ rfl rfl rfl rfl) ?_;go_frame;refine Rg.lr 39 (exec_pickT (v:=.bool true) _ _ _ rfl rfl rfl) ?_;go_frame;refine Rg.lm 40 (.bool true) ?_;go_frame;refine Rg.lW 41 (Rg.xm (.slice oa u.length oc) _ rfl rfl) ?_;go_frame;refine Rg.lW 42 (Rg.xm (.slice wa u.length wc) _ rfl rfl) ?_;go_frame;refine listW_ask (some 43) rfl rfl _ _ (exec_fn 15 _ _ _ rfl rfl rfl (Bncl2 _ _)) ?_;refine (Same_any (w0:=w160) (b:=true) OI.out.i HU.out.i (ι (decide_eq_true rfl)) (Below.refl _ _)).mono ?_;rintro e1 w161 ⟨rfl,hb⟩
   refine ⟨_,rfl,?_⟩;go_frame;replace A0:=ι (A0.out.below hb);replace A1:=ι (A1.out.below hb);replace HG:=ι (HG.out.below hb);replace HU:=ι (HU.out.below hb);replace OI:=ι (OI.out.below hb);replace A1i:=ι (A1i.out.below hb);replace A2i:=ι (A2i.out.below hb);replace K:=ι (Rg.acc K.out hb);clear hb;refine Rg.lr 44 (exec_pickT (v:=.bool true) _ _ _ rfl rfl rfl) ?_;go_frame;refine Rg.lm 45 (.bool true) ?_;go_frame;refine listW_ask (some 46) rfl rfl _ _ (exec_fn0 11 _ rfl (Bocl1 _ _)) ?_;refine (awake10_any w161).mono ?_;rintro e1 w162 ⟨rfl,hb⟩;refine ⟨_,rfl,?_⟩;go_frame;replace A0:=ι (A0.out.below hb);replace A1:=ι (A1.out.below hb);replace HG:=ι (HG.out.below hb);replace HU:=ι (HU.out.below hb);replace OI:=ι (OI.out.below hb);replace A1i:=ι (A1i.out.below hb);replace A2i:=ι (A2i.out.below hb);replace K:=ι (Rg.acc K.out hb);clear hb;refine Rg.lr 47 (exec_pickT (v:=.bool true) _ _ _ rfl rfl rfl) ?_;go_frame
   refine Rg.la 4 (.bool true) ?_;go_frame;go_wp2;go_ret;exact ⟨rfl,K.out⟩
end Go.Proofs.YtdnmmibchbceeaaGreat
