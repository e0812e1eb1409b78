/- Lemmas and contracts on the way to the statement; no condition of their own beyond those written. -/
import Derived.Test.YtdnmmibchbceeaaGreatXZktoBz
import Derived.RangeFuncWrites
import Derived.RangeFuncNested
import Derived.RangeFuncBox
import Derived.RangeFuncLeaves
import Derived.Shelf.Abstract
import Derived.OwnWalkIn
import Derived.TacticsInMore
import Derived.LoopNIn
import Derived.LoopIn
import Derived.Maps.AppendAt
import Derived.Sort.CutIn
import Derived.Deep.CutRange
import Derived.Deep.CutBlock
import Derived.IntWalk
import Derived.Great.BuildSlice
import Derived.ArgAppend
import Derived.Laws.CopyOwn
import Derived.StillTailTactics
import Derived.Deep.MidRow
import Derived.WalkSpells
import Derived.WalkLawsBesides
import Derived.OwnWalk
import Derived.OrdersHeld
import Derived.Deep.OwnRows
import Derived.WalkKit
import Derived.Lib.Hide
import Derived.Laws.OwnMore
import Derived.Test.YtdnmmibchbceeaaGreatProg
import Derived.Outline
import Derived.Deep.DeepFit
import Derived.BigQuiet
import Derived.Deep.QuietTactic
import Derived.Sort.OwnSortedInts
import Derived.WideMake
import Derived.MapKept
import Derived.ChangeMaps5
import Derived.Shelf.Sort.Plain
import Derived.Lib.ConvBytes
import Derived.ChangeKeysEq
import Derived.Laws.Cells
import Derived.Laws.Rows
import Derived.Laws.Tables
import Derived.Deep.WholeRow
import Derived.OrdersIn
import Derived.TacticsIn
import Derived.Deep.LoopGhost
import Derived.Lib.SlicesSearch
import Derived.Stop.BytesEq
import Derived.Shelf.SlSortCmp.Whole1
import Derived.Ground.SlsfProg
import Derived.Lib.SmallJoins
import Derived.Deep.Matrix
set_option linter.unusedVariables false
set_option linter.unusedSimpArgs false
set_option maxRecDepth 100000
set_option maxHeartbeats 8000000
namespace Go.Proofs.YtdnmmibchbceeaaGreat
open Go.RowKit
open Go.Proofs
open Go.Proofs.Ob
open Go.Proofs.Cm (Gd Gr IsChain ap)
attribute [local irreducible] Go.Calls Go.wpList
theorem Bgcl1 (args:Array Value) (w:World):(callFunc 77 args).run Tryz.prog w=.ok (.enter 77 args) w:=by kernel_rfl
theorem Bgcl2 (args:Array Value) (w:World):(callFunc 78 args).run Tryz.prog w=.ok (.enter 78 args) w:=by kernel_rfl
theorem Bgcl3 (args:Array Value) (w:World):(callFunc 79 args).run Tryz.prog w=.ok (.enter 79 args) w:=by kernel_rfl
theorem Bgcl4 (args:Array Value) (w:World):(callFunc 42 args).run Tryz.prog w=.ok (.enter 42 args) w:=by kernel_rfl
theorem Bgcl5 (args:Array Value) (w:World):(callFunc 56 args).run Tryz.prog w=.ok (.enter 56 args) w:=by kernel_rfl
theorem Bgcl6 (args:Array Value) (w:World):(callFunc 44 args).run Tryz.prog w=.ok (.enter 44 args) w:=by kernel_rfl
theorem Bgcl7 (args:Array Value) (w:World):(callFunc 80 args).run Tryz.prog w=.ok (.enter 80 args) w:=by kernel_rfl
theorem owns_weak {W:World} {B B':Nat} {e:TypeId} {v:Value} {n:Nat} {xs:List Value} (h:W.ownsRow B e 1 v n xs) (hB:B'≤B):W.ownsRow B' e 1 v n xs:=by
 obtain ⟨h1,h2⟩:=h;refine ⟨h1,h2.imp id ?_⟩;rintro ⟨g,cap,cur,e1,hg,r⟩;exact ⟨g,cap,cur,e1,Nat.le_trans hB hg,r⟩
theorem BfM.weak {B B':Nat} {W:World} {fv:Value} {mb:Nat} {Fd Ks:List (List Nat)} {vs:List Value} {Wd:List (List Int)} (h:BfM B W fv mb Fd Ks vs Wd) (hB:B'≤B):BfM B' W fv mb Fd Ks vs Wd:=by
 obtain ⟨us,h1,h2⟩:=h.row;exact ⟨⟨us,owns_weak h1 hB,h2⟩,h.map,h.els,h.off,Nat.le_trans hB h.sz,Nat.le_trans hB h.mlo,h.ln,h.sh⟩
theorem BfM.init {B:Nat} {F:Nat→Prop} {W:World} {fv:Value} {x:List Nat} (h:RowH B F (fun _=>False) W fv [x]) (hF:∀ k,F k→k<W.heap.size):BfM B (W.alloc (.map #[] 0)) fv W.heap.size [x] [] [] []:=by
 obtain ⟨us,h1,h2⟩:=h.own;have hb:Below W.heap.size W (W.alloc (.map #[] 0)):=(Below.refl _ _).alloc (Nat.le_refl _) _;refine ⟨⟨us,Rg.row_below h1 hb,(h2.kp (M:=fun _=>False) (Rg.Kp.of_below hb) (fun _ _=>id)).mono fun k g=>⟨Nat.lt_of_lt_of_le (hF k g) hb.size,fun e=>?_,fun e=>(h.off k e).1 g⟩⟩,Sm.SMap.new W,⟨rfl,fun i a=>by simp at a⟩,fun e=>?_,Nat.le_trans h.size hb.size,h.size,rfl,fun v hv=>by simp at hv⟩
 ·have:=hF k g; omega
 ·have:=(h.lt _ e).2; omega
theorem EX.nil {W:World} {mb:Nat} {fv:Value} (b:Nat):EX W mb fv (.slice (some ⟨b,0,none⟩) 0 0) []:=⟨⟨some ⟨b,0,none⟩,0,rfl,Nat.le_refl _,Nat.zero_le _,Nat.zero_le _,fun h=>absurd h (Nat.lt_irrefl 0)⟩⟩
theorem EX.np {W:World} {mb:Nat} {fv v:Value} {x:List Nat} (h:EX W mb fv v (Ma.ofN x)):Rg.NP W v x:=h.fi.ints
theorem EX.new {W W':World} {mb:Nat} {fv v:Value} {x:List Nat} (h:Rg.NPF W W' v x) (hm:mb<W.heap.size) (ho:∀ k,fv.ownBlock=some k→k<W.heap.size):EX W' mb fv v (Ma.ofN x) :=
 ⟨Rg.FI.mono (FP.new (F:=fun _=>False) h) fun k g=>by
  rcases g with g | g
  ·exact g.elim
  ·exact ⟨g.2,fun e=>by have:=g.1; omega,fun e=>by have:=ho k e; have:=g.1; omega⟩⟩
theorem BfM.lt1 {B:Nat} {W:World} {fv:Value} {mb:Nat} {Fd Ks:List (List Nat)} {vs:List Value} {Wd:List (List Int)} (h:BfM B W fv mb Fd Ks vs Wd):∀ k,fv.ownBlock=some k→k<W.heap.size:=fun k e=>by
 obtain ⟨us,h1,h2⟩:=h.row;exact (h1.lt k e).2
theorem BfM.word {B:Nat} {W:World} {fv:Value} {mb:Nat} {Fd Ks:List (List Nat)} {vs:List Value} {Wd:List (List Int)} (h:BfM B W fv mb Fd Ks vs Wd) {i:Nat} {wd:List Int} {wv:Value} (h1:vs[i]?=some wv) (h2:Wd[i]?=some wd) :
  EX W mb fv wv wd∧∃ b o c,wv=.slice (some ⟨b,o,none⟩) wd.length c:=by
 obtain ⟨a1,e1⟩:=List.getElem?_eq_some_iff.1 h1;obtain ⟨a2,e2⟩:=List.getElem?_eq_some_iff.1 h2;have hx:EX W mb fv wv wd:=⟨by have:=h.els.2 i a1 a2; rw [e1,e2] at this; exact this⟩;refine ⟨hx,?_⟩;obtain ⟨b,o,n,c,rfl⟩:=h.sh wv (List.mem_of_getElem? h1);obtain ⟨a',c',e,-⟩:=hx.ints.shape;simp only [Value.slice.injEq] at e;exact ⟨b,o,c,by rw [e.2.1]⟩
theorem own_some {B:Nat} {W:World} {e:TypeId} {v:Value} {n:Nat} {xs:List Value} (h:W.ownsRow B e 1 v n xs) (hn:1≤n):∃ b o c,v=.slice (some ⟨b,o,none⟩) n c:=by
 obtain ⟨h1,h2⟩:=h
 rcases h2 with ⟨rfl,rfl⟩ | ⟨g,cap,cur,rfl,-⟩
 ·omega
 ·exact ⟨_,_,_,rfl⟩
def SrPost (d:Int) (ll:List (List Int)) (w:World) (ed:Ending) (w':World):Prop:=Below w.heap.size w w' ∧
 ((Ma.gchk d ll≠0∧ed=.returned (.tuple #[.slice none 0 0,.map none,.int .i64 (Ma.gchk d ll)])) ∨
  (Ma.gchk d ll=0∧∃ (N:Nat) (gs:List (List Nat)) (O:List (List Nat)) (R:List (List (List Nat))),d=((N:Nat):Int)∧ll=gs.map Ma.ofN∧1≤N∧gs.length≤16∧(∀ s∈gs,Gd N s)∧IsChain N (Cm.Gr N (·∈gs)) O R ∧
   ((5040<szD O N N∧ed=.returned (.tuple #[.slice none 0 0,.map none,.int .i64 5])) ∨
   (szD O N N≤5040∧∃ (fv:Value) (mb:Nat) (vs:List Value) (st:BSt),ed=.returned (.tuple #[fv,.map (some mb),.int .i64 0])∧BfE (mlets gs) N st∧BI N st∧BfM w.heap.size w' fv mb st.1 st.1 vs st.2))))
theorem fcSearch_any (gv:Value) (d:Int) (ll:List (List Int)) (w:World) (h:Rg.Rows w gv ll) (hd:d≤12) :
  Calls Tryz.prog 51 #[.agg #[.int .i64 d,gv]] w (SrPost d ll w):=by
 obtain ⟨ga,gc,rfl,hga,hba⟩:=GI.enter (d) h;have K:=ι hba;have G0:=ι hga;clear h hga hba;obtain ⟨ck,hck⟩:∃ c,Hid (Ma.gchk d ll=c):=⟨_,ι rfl⟩
 go_enter Tryz.func51,Tryz.ntmps51
 go_upto_region 0 with (fail);refine Rg.wl ?_;refine Rg.lr 1 (Rg.exec_box _ _ rfl rfl) ?_;go_frame;refine Rg.la 2 (.slice none 0 0) ?_;go_frame;refine Rg.la 3 (.map none) ?_;go_frame;refine Rg.la 4 (.int .i64 0) ?_;go_frame;obtain ⟨gb,hgb⟩:∃ gb,w.heap.size=gb:=⟨_,rfl⟩;rw [hgb] at G0 ⊢;generalize w.alloc (.cells #[.int .i64 d,.slice ga ll.length gc] 24)=w0 at *;clear hgb;go_upto_region 1 with (fail);refine Rg.wl ?_;refine Rg.lr 21 (Rg.exec_load (v:=.agg #[.int .i64 d,.slice ga ll.length gc]) _ _ rfl ⟨gb,0,none⟩ rfl (run_loadG G0.out.c0 G0.out.c1)) ?_;go_frame;refine Rg.lk 22 (exec_fn1 40 _ _ rfl rfl (Wbcl0 _ _)) ?_;refine (orbitCheck_any _ d ll w0 G0.out.rows).mono ?_;rintro e1 w1 ⟨rfl,hb⟩;rw [hck.out];refine ⟨_,rfl,?_⟩;go_frame;replace G0:=ι (G0.out.below hb);replace K:=ι (Rg.acc K.out hb);clear hb;refine Rg.la 5 (.int .i64 ck) ?_;go_frame
 by_cases h0:ck=0
 case neg =>
  skip
  go_upto_region 2 with (fail);refine Rg.wl ?_;refine Rg.lm 23 (.int .i64 ck) ?_;go_frame;refine Rg.lr 24 (exec_bin (R:=.bool true) .neq _ _ _ rfl rfl rfl (b_neqB _ (decide_eq_true h0))) ?_;go_frame;go_upto_region 3 with (fail);refine Rg.wl ?_;refine Rg.lm 25 (.int .i64 ck) ?_;go_frame;refine Rg.la 2 (.slice none 0 0) ?_;go_frame;refine Rg.la 3 (.map none) ?_;go_frame;refine Rg.la 4 (.int .i64 ck) ?_;go_frame;go_wp2
  go_ret3
  exact ⟨K.out,.inl ⟨by rw [hck.out]; exact h0,by rw [hck.out]; rfl⟩⟩
 case pos =>
  have HZ:=ι (hck.out.trans h0);obtain ⟨D,gs,rfl,rfl,hgg,hn1,hn2,hgl⟩:=gchk_ok HZ.out;have HGD:=ι (show ∀ s∈gs,Gd D s from fun s hs=>hgg s hs);have HGL:=ι hgl
  have hD12:D≤12:=by omega
  clear hgg hgl hck hn2 hd;go_upto_region 2 with (fail);refine Rg.wl ?_;refine Rg.lm 23 (.int .i64 ck) ?_;go_frame;refine Rg.lr 24 (exec_bin (R:=.bool false) .neq _ _ _ rfl rfl rfl (b_neqB _ (decide_eq_false (fun e=>e h0)))) ?_;go_frame;clear h0;go_upto_region 4 with (fail);refine Rg.wl ?_;refine Rg.lr 27 (Rg.exec_load (v:=.agg #[.int .i64 ((D:Nat):Int),.slice ga (gs.map Ma.ofN).length gc]) _ _ rfl ⟨gb,0,none⟩ rfl (run_loadG G0.out.c0 G0.out.c1)) ?_;go_frame;refine Rg.lk 28 (exec_fn1 77 _ _ rfl rfl (Bgcl1 _ _)) ?_;refine (chOf_any _ _ _ w1 G0.out.rows).mono ?_;rintro e1 w2 ⟨cv,rfl,hca,hb⟩;rw [HZ.out] at hca ⊢
  rcases hca with ⟨he,_⟩ | ⟨_,n9,gs9,e1,e2,-,-,ov,rv,O,R,rfl,hO,hR,hch⟩
  ·exact absurd rfl he
  obtain rfl:D=n9:=by omega
  have e2:=map_ofN_inj e2;subst e2;obtain ⟨oa,oc,e3,-⟩:=hO.shape;obtain ⟨ra,rc,e4⟩:=hR.shape;have hce:ChEqR w2 ov rv (O.map Ma.ofN) (R.map (List.map Ma.ofN)):=⟨hO,hR⟩;obtain ⟨on,hon⟩:∃ n,(O.map Ma.ofN).length=n:=⟨_,rfl⟩;obtain ⟨rn,hrn⟩:∃ n,(R.map (List.map Ma.ofN)).length=n:=⟨_,rfl⟩;rw [hon] at e3;rw [hrn] at e4;subst e3 e4;clear hon hrn e1 hO hR;have HCH:=ι hch;clear hch;refine ⟨_,rfl,?_⟩;go_frame;replace G0:=ι (G0.out.below hb);replace K:=ι (Rg.acc K.out hb);clear hb;have CE:=ι hce;refine Rg.lm 26 (.tuple #[(.agg #[.int .i64 ((D:Nat):Int),.slice oa on oc,.slice ra rn rc]),.int .i64 0]) ?_;go_frame;refine Rg.lr 29 (exec_extract (v:=(.agg #[.int .i64 ((D:Nat):Int),.slice oa on oc,.slice ra rn rc])) _ _ rfl rfl rfl) ?_;go_frame;refine Rg.lr 30 (exec_extract (v:=.int .i64 0) _ _ rfl rfl rfl) ?_;go_frame;refine Rg.lr 6 (exec_allocC rfl) ?_;go_frame
  refine Rg.list_skip none rfl rfl (Rg.exec_store _ _ _ rfl _ rfl _ rfl (run_storeC _ _ _ _ _ _ _ (Tri.new w2 (.int .i64 0) (.slice none 0 0) (.slice none 0 0)))) ?_;go_frame;have htn:=(Tri.new w2 (.int .i64 0) (.slice none 0 0) (.slice none 0 0)).set (.int .i64 ((D:Nat):Int)) (.slice oa on oc) (.slice ra rn rc);have hb:=((((Below.refl w2.heap.size w2).alloc (Nat.le_refl _) (.cells #[.int .i64 0,.slice none 0 0,.slice none 0 0] 87)).setCell (p:=⟨w2.heap.size,0,none⟩) (Nat.le_refl _) (.int .i64 ((D:Nat):Int))).setCell (p:=⟨w2.heap.size,1,none⟩) (Nat.le_refl _) (.slice oa on oc)).setCell (p:=⟨w2.heap.size,2,none⟩) (Nat.le_refl _) (.slice ra rn rc);generalize (((w2.alloc (.cells #[.int .i64 0,.slice none 0 0,.slice none 0 0] 87)).setCell ⟨w2.heap.size,0,none⟩ (.int .i64 ((D:Nat):Int))).setCell ⟨w2.heap.size,1,none⟩ (.slice oa on oc)).setCell ⟨w2.heap.size,2,none⟩ (.slice ra rn rc)=w3 at *
  replace G0:=ι (G0.out.below hb);replace CE:=ι (CE.out.below hb);replace K:=ι (Rg.acc K.out hb);clear hb;have S1:=ι htn;clear htn;refine Rg.la 7 (.int .i64 0) ?_;go_frame;clear hce;go_upto_region 5 with (fail);refine Rg.wl ?_;refine Rg.lm 31 (.int .i64 0) ?_;go_frame;refine Rg.lr 32 (exec_bin (R:=.bool false) .neq _ _ _ rfl rfl rfl (b_neqB _ (decide_eq_false (by decide)))) ?_;go_frame;obtain ⟨sz,hsz⟩:∃ n,Hid (szD O D D=n):=⟨_,ι rfl⟩;go_upto_region 7 with (fail);refine Rg.wl ?_;refine Rg.lr 35 (Rg.exec_load (v:=(.agg #[.int .i64 ((D:Nat):Int),.slice oa on oc,.slice ra rn rc])) _ _ rfl ⟨w2.heap.size,0,none⟩ rfl (run_loadC3 S1.out.c0 S1.out.c1 S1.out.c2)) ?_;go_frame;refine Rg.lk 36 (exec_fn1 78 _ _ rfl rfl (Bgcl2 _ _)) ?_;refine (rkSize_any HGD.out hn1 hD12 HCH.out CE.out).mono ?_;rintro e1 w4 ⟨rfl,hb⟩;rw [hsz.out];refine ⟨_,rfl,?_⟩;go_frame;replace G0:=ι (G0.out.below hb)
  replace CE:=ι (CE.out.below hb);replace S1:=ι (S1.out.below hb);replace K:=ι (Rg.acc K.out hb);clear hb;refine Rg.lm 34 (.tuple #[.int .i64 ((sz:Nat):Int),.int .i64 0]) ?_;go_frame;refine Rg.lr 37 (exec_extract (v:=.int .i64 ((sz:Nat):Int)) _ _ rfl rfl rfl) ?_;go_frame;refine Rg.lr 38 (exec_extract (v:=.int .i64 0) _ _ rfl rfl rfl) ?_;go_frame;refine Rg.la 8 (.int .i64 ((sz:Nat):Int)) ?_;go_frame;refine Rg.la 9 (.int .i64 0) ?_;go_frame;clear CE;clear S1
  by_cases hbig:5040<sz
  case pos =>
   skip
   go_upto_region 8 with (fail);refine Rg.wl ?_;refine Rg.lm 39 (.int .i64 0) ?_;go_frame;refine Rg.lr 40 (exec_bin (R:=.bool false) .neq _ _ _ rfl rfl rfl (b_neqB _ (decide_eq_false (by decide)))) ?_;go_frame;refine Rg.lm 41 (.bool false) ?_;go_frame;refine Rg.lW 42 (Rg.xm (.int .i64 ((sz:Nat):Int)) _ rfl rfl) ?_;go_frame;refine Rg.lW 43 (exec_bin (R:=.bool true) .gtr _ _ _ rfl rfl rfl (b_gtr _ Rg.dT)) ?_;go_frame;refine Rg.lr 44 (exec_pickF _ _ _ rfl rfl rfl) ?_;go_frame;go_upto_region 9 with (fail);refine Rg.wl ?_;refine Rg.la 2 (.slice none 0 0) ?_;go_frame;refine Rg.la 3 (.map none) ?_;go_frame;refine Rg.la 4 (.int .i64 ((5:Nat):Int)) ?_;go_frame;go_wp2
   go_ret3
   exact ⟨K.out,.inr ⟨HZ.out,D,gs,O,R,rfl,rfl,hn1,HGL.out,HGD.out,HCH.out,.inl ⟨by rw [hsz.out]; exact hbig,rfl⟩⟩⟩
  case neg =>
   skip
   go_upto_region 8 with (fail);refine Rg.wl ?_;refine Rg.lm 39 (.int .i64 0) ?_;go_frame;refine Rg.lr 40 (exec_bin (R:=.bool false) .neq _ _ _ rfl rfl rfl (b_neqB _ (decide_eq_false (by decide)))) ?_;go_frame;refine Rg.lm 41 (.bool false) ?_;go_frame;refine Rg.lW 42 (Rg.xm (.int .i64 ((sz:Nat):Int)) _ rfl rfl) ?_;go_frame;refine Rg.lW 43 (exec_bin (R:=.bool false) .gtr _ _ _ rfl rfl rfl (b_gtr _ Rg.dF)) ?_;go_frame;refine Rg.lr 44 (exec_pickF _ _ _ rfl rfl rfl) ?_;go_frame;have HSZ:=ι (show sz≤5040 by omega);have HFEW:=ι (show ∀ i,(bfs (mlets gs) D i).1.length≤5040 from fun i=>by have:=bfs_few HGD.out HCH.out i; rw [hsz.out] at this; have:=HSZ.out; omega);have HBI:=ι (show ∀ i,BI D (bfs (mlets gs) D i) from fun i=>bfs_BI (mlets_gd HGD.out) i);obtain ⟨m,hm⟩:∃ n,Hid (2*gs.length=n):=⟨_,ι rfl⟩
   have hm32:m≤32:=by have:=hm.out; have:=HGL.out; omega
   clear hbig;go_upto_region 10 with (fail);refine Rg.wl ?_;refine Rg.lr 46 (Rg.exec_load (v:=.agg #[.int .i64 ((D:Nat):Int),.slice ga (gs.map Ma.ofN).length gc]) _ _ rfl ⟨gb,0,none⟩ rfl (run_loadG G0.out.c0 G0.out.c1)) ?_;go_frame;refine Rg.lk 47 (exec_fn1 79 _ _ rfl rfl (Bgcl3 _ _)) ?_;refine (fcLetters_any _ D gs w4 G0.out.rows HGD.out hn1 (by omega) (by have:=HGL.out; omega) _).mono ?_;rintro e1 w5 ⟨lv,mv,rfl,hlv,hmv,hb⟩;obtain ⟨la,lc,e3,-⟩:=hlv.shape;obtain ⟨ma,mc,e4,-⟩:=Rg.Rows.shape hmv;rw [len_lets,hm.out] at e3;rw [List.length_map,len_moves,hm.out] at e4;subst e3 e4;refine ⟨_,rfl,?_⟩;go_frame;replace G0:=ι (G0.out.below hb);replace K:=ι (Rg.acc K.out hb);clear hb;have LV:=ι (show NpI _ _ _ from ⟨hlv⟩);have MV:=ι (show RsO _ _ _ from ⟨hmv⟩);refine Rg.lm 45 (.tuple #[.slice la m lc,.slice ma m mc]) ?_;go_frame;refine Rg.lr 48 (exec_extract (v:=.slice la m lc) _ _ rfl rfl rfl) ?_;go_frame
   refine Rg.lr 49 (exec_extract (v:=.slice ma m mc) _ _ rfl rfl rfl) ?_;go_frame;refine Rg.la 10 (.slice la m lc) ?_;go_frame;refine Rg.la 11 (.slice ma m mc) ?_;go_frame;clear hlv hmv;have LV0:=LV;have MV0:=MV;have K0:=K;clear LV MV K;have K:=ι (Below.refl w5.heap.size w5);go_upto_region 11 with (fail);refine Rg.wl ?_;refine Rg.lr 50 (exec_fieldG0 _ rfl rfl) ?_;go_frame;refine Rg.lr 51 (Rg.exec_load (v:=.int .i64 ((D:Nat):Int)) _ _ rfl ⟨gb,0,none⟩ rfl (run_loadInt G0.out.c0)) ?_;go_frame;refine Rg.lk 52 (exec_fn1 42 _ _ rfl rfl (Bgcl4 _ _)) ?_;refine (fcOne_any D w5 (by omega)).mono ?_;rintro e1 w6 ⟨ov,rfl,hov,hb⟩;obtain ⟨ob,oo,oc2,rfl⟩:=FP.shape' (FP.new (F:=fun _=>True) hov) (Cm.gd_one D) hn1;have hov2:=FP.new (F:=fun _=>False) hov;refine ⟨_,rfl,?_⟩;go_frame;replace G0:=ι (G0.out.below hb);replace K:=ι (Rg.acc K.out hb);clear hb;have NV:=ι (show NpI _ _ _ from ⟨hov.1⟩)
   have hrow:=RowH.one (B:=w5.heap.size) (M:=fun _=>False) K.out.size hov2 ⟨_,_,_,rfl⟩ (fun k hk=>hk.elim False.elim (·.2)) (fun _=>False.elim);have hcb:CL (w6.alloc (.cells #[.slice (some ⟨ob,oo,none⟩) D oc2] 30)) w6.heap.size (0+0) (.slice (some ⟨ob,oo,none⟩) D oc2):=⟨by rw [Nat.add_zero,Rg.cellNew]; rfl,by simp⟩
   have hfz:∀ k,Fup (fun _=>False) w5 w6 k→k<(w6.alloc (.cells #[.slice (some ⟨ob,oo,none⟩) D oc2] 30)).heap.size:=fun k hk=>by rcases hk with hk | hk; exact hk.elim; have:=hk.2; simp; omega
   refine Rg.lr 53 (Rg.exec_buildSlice _ _ _ rfl (.slice (some ⟨ob,oo,none⟩) D oc2) rfl (run_build1P w6 _ ⟨_,_,_,rfl⟩)) ?_;go_frame;have hb:=(Below.refl w6.heap.size w6).alloc (Nat.le_refl _) (.cells #[.slice (some ⟨ob,oo,none⟩) D oc2] 30);generalize w6.alloc (.cells #[.slice (some ⟨ob,oo,none⟩) D oc2] 30)=w7 at *;replace G0:=ι (G0.out.below hb);replace NV:=ι (NV.out.below hb);replace K:=ι (Rg.acc K.out hb);clear hb;have CB:=ι hcb;clear hcb hov hov2;refine Rg.la 12 (.slice (some ⟨w6.heap.size,0,none⟩) 1 1) ?_;go_frame;go_upto_region 12 with (fail);refine Rg.wl ?_;have hbm:=BfM.init hrow hfz;have HMB:=ι (show w5.heap.size≤w7.heap.size from K.out.size);refine Rg.lr 54 (exec_makeMap _ rfl) ?_;go_frame;have hb:=(Below.refl w7.heap.size w7).alloc (Nat.le_refl _) (.map #[] 0);generalize w7.alloc (.map #[] 0)=w8 at *;replace G0:=ι (G0.out.below hb);replace NV:=ι (NV.out.below hb)
   replace CB:=ι (CB.out.below hb);replace K:=ι (Rg.acc K.out hb);clear hb;have BM:=ι hbm;clear hbm hrow hfz;refine Rg.lm 55 (.slice (some ⟨w6.heap.size,0,none⟩) 1 1) ?_;go_frame;refine Rg.lr 56 (exec_indexS slPerms _ _ rfl w6.heap.size (0) (1) 1 (0) rfl rfl (by decide)) ?_;go_frame;refine Rg.lr 57 (Rg.exec_load (v:=.slice (some ⟨ob,oo,none⟩) D oc2) _ _ rfl ⟨w6.heap.size,0+0,none⟩ rfl (Rg.run_loadSl _ _ Tryz.underlying30 CB.out.cell)) ?_;go_frame;refine Rg.lk 58 (exec_fn1 56 _ _ rfl rfl (Bgcl5 _ _)) ?_;refine (key_any NV.out.i (by rw [Ma.len_oneN]; exact hn1) (by rw [Ma.len_oneN]; omega) (gd_b (Cm.gd_one D) (by omega))).mono ?_;rintro e1 w9 ⟨rfl,hb⟩;refine ⟨_,rfl,?_⟩;go_frame;replace G0:=ι (G0.out.below hb);replace NV:=ι (NV.out.below hb);replace CB:=ι (CB.out.below hb);replace BM:=ι (BM.out.below hb);replace K:=ι (Rg.acc K.out hb);clear hb;refine Rg.lr 59 (Rg.exec_build0 slWord rfl w9) ?_;go_frame
   have hb:=(Below.refl w9.heap.size w9).alloc (Nat.le_refl _) (.cells #[] 3);generalize w9.alloc (.cells #[] 3)=w10 at *;replace G0:=ι (G0.out.below hb);replace NV:=ι (NV.out.below hb);replace CB:=ι (CB.out.below hb);replace BM:=ι (BM.out.below hb);replace K:=ι (Rg.acc K.out hb);clear hb;obtain ⟨X9,r9,hbm,hk9⟩:=BM.out.ins stWords (x:=Ma.oneN D) (EX.nil _) ⟨_,_,_,_,rfl⟩ rfl;have hK9:=Rg.Kp.below K.out hk9 (fun k e=>by rw [e]; exact HMB.out);refine Rg.list_skip none rfl rfl (Rg.exec_insert _ _ _ _ rfl _ _ _ rfl rfl rfl r9) ?_;go_frame;refine Rg.lm 60 ((.map (some w7.heap.size))) ?_;go_frame;refine Rg.la 13 ((.map (some w7.heap.size))) ?_;go_frame;replace BM:=ι hbm;replace K:=ι hK9;clear G0 NV CB hbm hK9 hk9 r9;go_upto_region 13 with (fail);refine Rg.wl ?_;refine Rg.la 14 (.int .i64 ((0:Nat):Int)) ?_;go_frame;obtain ⟨mbk,hmbk⟩:∃ b,w7.heap.size=b:=⟨_,rfl⟩
   rw [hmbk] at BM ⊢;clear HMB hmbk;go_wp2
   go_loopw [12,14] (fun fv iv wr=>∃ (i:Nat) (vs:List Value),iv=.int .i64 ((i:Nat):Int)∧i≤(bfs (mlets gs) D i).1.length∧Hid (BfM w5.heap.size wr fv mbk (bfs (mlets gs) D i).1 (bfs (mlets gs) D i).1 vs (bfs (mlets gs) D i).2)∧Hid (Below w5.heap.size w5 wr)) (fun _ iv _=>5040 - (intOf iv).toNat)
   case atStart=>exact ⟨0,_,rfl,Nat.zero_le _,BM,K⟩
   case round =>
    clear BM K;obtain ⟨i,vs,rfl,hi,BM,K⟩:=hrel;obtain ⟨St,hSt⟩:∃ s,Hid (bfs (mlets gs) D i=s):=⟨_,ι rfl⟩;rw [hSt.out] at BM hi;have HBS:=ι (show BI D St by rw [← hSt.out]; exact HBI.out i);have HLE:=ι (show St.1.length≤5040 by rw [← hSt.out]; exact HFEW.out i);obtain ⟨fa,fc,hsh⟩:=BM.out.shape;subst hsh
    by_cases hil:i<St.1.length
    case neg =>
     skip
     go_upto_region 14 with (fail);refine Rg.wl ?_;refine Rg.lm 61 (.int .i64 ((i:Nat):Int)) ?_;go_frame;refine Rg.lm 62 (.slice fa St.1.length fc) ?_;go_frame;refine Rg.lr 63 (exec_len _ _ _ rfl Tryz.underlying22 _ _ _ rfl) ?_;go_frame;refine Rg.lr 64 (exec_bin (R:=.bool false) .lss _ _ _ rfl rfl rfl (b_lss _ Rg.dF)) ?_;go_frame;go_upto_region 26 with (fail);refine Rg.wl ?_;refine Rg.lm 112 (.slice fa St.1.length fc) ?_;go_frame;refine Rg.lm 113 ((.map (some mbk))) ?_;go_frame;refine Rg.la 2 (.slice fa St.1.length fc) ?_;go_frame;refine Rg.la 3 ((.map (some mbk))) ?_;go_frame;refine Rg.la 4 (.int .i64 ((0:Nat):Int)) ?_;go_frame;go_wp2
     go_ret3
     exact ⟨Rg.acc K0.out K.out,.inr ⟨HZ.out,D,gs,O,R,rfl,rfl,hn1,HGL.out,HGD.out,HCH.out,.inr ⟨by rw [hsz.out]; exact HSZ.out,_,_,vs,St,rfl,⟨i,hSt.out,by omega⟩,HBS.out,BM.out.weak K0.out.size⟩⟩⟩
    case pos =>
     obtain ⟨x0,hx0⟩:∃ x,Hid (St.1[i]?=some x):=⟨_,ι (List.getElem?_eq_getElem hil)⟩;obtain ⟨wd,hwd⟩:∃ x,Hid (St.2[i]?=some x):=⟨_,ι (List.getElem?_eq_getElem (by rw [HBS.out.ln]; exact hil))⟩;obtain ⟨wv,hwv⟩:∃ x,Hid (vs[i]?=some x):=⟨_,ι (List.getElem?_eq_getElem (by rw [BM.out.vl]; exact hil))⟩;obtain ⟨hew,wb,wo,wc,hws⟩:=BM.out.word hwv.out hwd.out;subst hws;have GX:=ι (HBS.out.gd x0 (List.mem_of_getElem? hx0.out));have HWL:=ι (show wd.length≤5040 from Nat.le_trans (HBS.out.wl wd (List.mem_of_getElem? hwd.out)) HLE.out);obtain ⟨fb,fo,fc9,uv,e1,hcu,heu⟩:=BM.out.at (by have:=HLE.out; omega) hil hx0.out;simp only [Value.slice.injEq,true_and] at e1;obtain ⟨rfl,rfl⟩:=e1;have CU:=ι hcu;have EU:=ι heu;have HIL:=ι hil
     have hi50:i<5041:=by have:=HLE.out; omega
     clear hcu heu hew;go_upto_region 14 with (fail);refine Rg.wl ?_;refine Rg.lm 61 (.int .i64 ((i:Nat):Int)) ?_;go_frame;refine Rg.lm 62 (.slice (some ⟨fb,fo,none⟩) St.1.length fc) ?_;go_frame;refine Rg.lr 63 (exec_len _ _ _ rfl Tryz.underlying22 _ _ _ rfl) ?_;go_frame;refine Rg.lr 64 (exec_bin (R:=.bool true) .lss _ _ _ rfl rfl rfl (b_lss _ Rg.dT)) ?_;go_frame;go_upto_region 16 with (fail);refine Rg.wl ?_;refine Rg.lm 67 ((.map (some mbk))) ?_;go_frame;refine Rg.lm 68 (.slice (some ⟨fb,fo,none⟩) St.1.length fc) ?_;go_frame;refine Rg.lm 69 (.int .i64 ((i:Nat):Int)) ?_;go_frame;refine Rg.lr 70 (exec_indexS slPerms _ _ rfl fb (fo) (St.1.length) fc (i) rfl rfl HIL.out) ?_;go_frame;refine Rg.lr 71 (Rg.exec_load (v:=uv) _ _ rfl ⟨fb,fo+i,none⟩ rfl (Rg.run_loadSl _ _ Tryz.underlying30 CU.out.cell)) ?_;go_frame;refine Rg.lk 72 (exec_fn1 56 _ _ rfl rfl (Bgcl5 _ _)) ?_;refine (key_any EU.out.np (by rw [GX.out.2]; exact hn1) (by rw [GX.out.2]; omega) (gd_b GX.out (by omega))).mono ?_
     rintro e1 w101 ⟨rfl,hb⟩;refine ⟨_,rfl,?_⟩;go_frame;replace BM:=ι (BM.out.below hb);replace CU:=ι (CU.out.below hb);replace EU:=ι (EU.out.below hb);replace K:=ι (Rg.acc K.out hb);clear hb;have hlk:=Sm.lookup_no stWords BM.out.map (keyS x0);rw [look_at HBS.out.nd (fun y hy=>gd_b (HBS.out.gd y hy) (by omega)) hx0.out hwv.out,Option.getD_some] at hlk;refine Rg.lr 73 (Rg.exec_lookup _ _ _ _ rfl _ _ rfl rfl hlk) ?_;go_frame;clear hlk;refine Rg.la 15 ((.slice (some ⟨wb,wo,none⟩) wd.length wc)) ?_;go_frame;go_upto_region 17 with (fail);refine Rg.wl ?_;refine Rg.lm 74 (.slice ma m mc) ?_;go_frame;refine Rg.lr 75 (exec_len _ _ _ rfl Tryz.underlying22 _ _ _ rfl) ?_;go_frame;refine Rg.lm 76 (.int .i64 ((0:Nat):Int)) ?_;go_frame;have BM1:=ι (show BfM w5.heap.size w101 _ mbk (bfP (mlets gs) D i 0).1 (bfP (mlets gs) D i 0).1 vs (bfP (mlets gs) D i 0).2 by rw [bfP_zero,hSt.out]; exact BM.out)
     clear BM CU EU;go_wp2
     go_loopw [12,76] (fun fv kv wr=>∃ (k:Nat) (vs:List Value),kv=.int .i64 ((k:Nat):Int)∧k≤m∧Hid (BfM w5.heap.size wr fv mbk (bfP (mlets gs) D i k).1 (bfP (mlets gs) D i k).1 vs (bfP (mlets gs) D i k).2)∧Hid (Below w5.heap.size w5 wr)∧Hid (vs[i]?=some (.slice (some ⟨wb,wo,none⟩) wd.length wc))) (fun _ kv _=>m - (intOf kv).toNat)
     case atStart=>exact ⟨0,vs,rfl,Nat.zero_le _,BM1,K,hwv⟩
     case round =>
      clear BM1 K hwv;obtain ⟨k,vk,rfl,hk,BM,K,hwv⟩:=hrel;have HIB:=ι (show i<(bfs (mlets gs) D i).1.length by rw [hSt.out]; exact HIL.out);have HML:=ι (show (mlets gs).length=m by rw [len_mlets,hm.out]);obtain ⟨Sk,hSk⟩:∃ s,Hid (bfP (mlets gs) D i k=s):=⟨_,ι rfl⟩;rw [hSk.out] at BM;have HXT:=ι (show Ext St Sk by rw [← hSt.out,← hSk.out]; exact bfP_ext _ _ _ _);have HBK:=ι (show BI D Sk by rw [← hSk.out]; exact bfP_BI (mlets_gd HGD.out) HIB.out k)
      have HLK:=ι (show Sk.1.length≤5040 by
       rw [← hSk.out];refine Nat.le_trans (bfP_ext2 (mlets gs) D i k).1.length_le ?_
       rw [bfP_full HIB.out]; exact HFEW.out (i+1))
      have HILK:=ι (show i<Sk.1.length from Nat.lt_of_lt_of_le HIL.out HXT.out.1.length_le);have HX0:=ι (show Sk.1[i]?=some x0 by obtain ⟨t,ht⟩:=HXT.out.1; rw [← ht,List.getElem?_append_left HIL.out]; exact hx0.out);have HW0:=ι (show Sk.2[i]?=some wd by obtain ⟨t,ht⟩:=HXT.out.2; rw [← ht,List.getElem?_append_left (by rw [HBS.out.ln]; exact HIL.out)]; exact hwd.out);obtain ⟨ka,kc,hsh⟩:=BM.out.shape;subst hsh
      by_cases hkm:k<m
      case neg =>
       skip
       go_upto_region 18 with (fail);refine Rg.wl ?_;refine Rg.lr 77 (exec_bin (R:=.bool false) .lss _ _ _ rfl rfl rfl (b_lss _ Rg.dF)) ?_;go_frame;go_upto_region 15 with (fail);refine Rg.wl ?_;refine Rg.lm 65 (.int .i64 ((i:Nat):Int)) ?_;go_frame;refine Rg.lr 66 (exec_bin (R:=.int .i64 (((i+1):Nat):Int)) .add _ _ _ rfl rfl rfl (b_add _ (by omega) (by omega))) ?_;go_frame;refine Rg.la 14 (.int .i64 (((i+1):Nat):Int)) ?_;go_frame
       have HEQ:=ι (show bfs (mlets gs) D (i+1)=Sk by
        have e:k=(mlets gs).length:=by have:=HML.out; omega
        rw [← bfP_full HIB.out,← e,hSk.out])
       go_wp2
       go_roundw
       case rel=>exact ⟨i+1,vk,by go_num,by rw [HEQ.out]; exact HILK.out,by rw [HEQ.out]; exact BM,K⟩
       case measure=>simp [intOf]; have:=HIL.out; have:=HLE.out; omega
      case pos =>
       have hkl:k<(mlets gs).length:=by rw [HML.out]; exact hkm
       obtain ⟨s,hs⟩:∃ s,Hid ((moves gs)[k]?=some s):=⟨_,ι (List.getElem?_eq_getElem (by rw [len_moves,hm.out]; exact hkm))⟩;obtain ⟨z,hz⟩:∃ s,Hid ((lets gs.length)[k]?=some s):=⟨_,ι (List.getElem?_eq_getElem (by rw [len_lets,hm.out]; exact hkm))⟩
       have HNX:=ι (show bfP (mlets gs) D i (k+1)=bfStep x0 wd Sk (s,z) by
        have e1:(mlets gs)[k]?=some (s,z):=by unfold mlets; rw [List.getElem?_zip_eq_some]; exact ⟨hs.out,hz.out⟩
        have e2:(mlets gs)[k]=(s,z):=by rw [List.getElem?_eq_getElem hkl] at e1; exact Option.some.inj e1
        rw [bfP_succ hkl,e2,hSk.out,hSt.out]
        rw [show St.1.getD i []=x0 by rw [List.getD_eq_getElem?_getD,hx0.out]; rfl,show St.2.getD i []=wd by rw [List.getD_eq_getElem?_getD,hwd.out]; rfl])
       have GS:=ι (show Gd D s from mlets_gd HGD.out (s,z) (by
        have e1:(mlets gs)[k]?=some (s,z):=by unfold mlets; rw [List.getElem?_zip_eq_some]; exact ⟨hs.out,hz.out⟩
        exact List.mem_of_getElem? e1))
       clear hkl;obtain ⟨mb1,mo,sa,sc,e1,hm1,hm2,hm3⟩:=rows_get MV0.out.r (i:=k) (by rw [List.length_map,len_moves,hm.out]; exact hkm);subst e1
       have e5:((moves gs).map Ma.ofN)[k]'(by rw [List.length_map,len_moves,hm.out]; exact hkm)=Ma.ofN s:=by
        rw [List.getElem_map]; congr 1;have:=hs.out; rw [List.getElem?_eq_getElem (by rw [len_moves,hm.out]; exact hkm)] at this; exact Option.some.inj this
       rw [e5] at hm2 hm3;have CS:=ι ((CL.mk hm2 hm1).below K.out);have NS:=ι (show NpI wr _ _ from NpI.below ⟨hm3⟩ K.out);clear hm1 hm2 hm3 e5;obtain ⟨lb,lo,e1,hl1,hl2⟩:=ints_get LV0.out.i (k:=k) (by rw [len_lets,hm.out]; exact hkm);subst e1
       have e5:(lets gs.length)[k]'(by rw [len_lets,hm.out]; exact hkm)=z:=by
        have:=hz.out; rw [List.getElem?_eq_getElem (by rw [len_lets,hm.out]; exact hkm)] at this; exact Option.some.inj this
       rw [e5] at hl2;have CZ:=ι ((CL.mk hl2 hl1).below K.out);clear hl1 hl2 e5;obtain ⟨fb2,fo2,fc2,uv2,e1,hcu,heu⟩:=BM.out.at (by have:=HLK.out; omega) HILK.out HX0.out;simp only [Value.slice.injEq,true_and] at e1;obtain ⟨rfl,rfl⟩:=e1;have CU:=ι hcu;have EU:=ι heu;have EW:=ι (BM.out.word hwv.out HW0.out).1;have HKM:=ι hkm;clear hcu heu;obtain ⟨x,hx⟩:∃ x,Hid (Ma.mulN x0 s=x):=⟨_,ι rfl⟩;have GY:=ι (show Gd D x by rw [← hx.out]; exact Cm.gd_mul GX.out GS.out);go_upto_region 18 with (fail);refine Rg.wl ?_;refine Rg.lr 77 (exec_bin (R:=.bool true) .lss _ _ _ rfl rfl rfl (b_lss _ Rg.dT)) ?_;go_frame;go_upto_region 19 with (fail);refine Rg.wl ?_;refine Rg.lm 78 (.int .i64 ((k:Nat):Int)) ?_;go_frame;refine Rg.lr 79 (exec_indexS slPerms _ _ rfl mb1 (mo) (m) mc (k) rfl rfl HKM.out) ?_;go_frame;refine Rg.lr 80 (Rg.exec_load (v:=(.slice sa (Ma.ofN s).length sc)) _ _ rfl ⟨mb1,mo+k,none⟩ rfl (Rg.run_loadSl _ _ Tryz.underlying30 CS.out.cell)) ?_;go_frame
       refine Rg.la 16 (.int .i64 ((k:Nat):Int)) ?_;go_frame;refine Rg.la 17 ((.slice sa (Ma.ofN s).length sc)) ?_;go_frame;go_upto_region 20 with (fail);refine Rg.wl ?_;refine Rg.lm 81 (.slice (some ⟨fb2,fo2,none⟩) Sk.1.length kc) ?_;go_frame;refine Rg.lm 82 (.int .i64 ((i:Nat):Int)) ?_;go_frame;refine Rg.lr 83 (exec_indexS slPerms _ _ rfl fb2 (fo2) (Sk.1.length) kc (i) rfl rfl HILK.out) ?_;go_frame;refine Rg.lr 84 (Rg.exec_load (v:=uv2) _ _ rfl ⟨fb2,fo2+i,none⟩ rfl (Rg.run_loadSl _ _ Tryz.underlying30 CU.out.cell)) ?_;go_frame;refine Rg.lm 85 ((.slice sa (Ma.ofN s).length sc)) ?_;go_frame;have HSZ0:=ι (show mbk<wr.heap.size∧(∀ q,(Value.slice (some ⟨fb2,fo2,none⟩) Sk.1.length kc).ownBlock=some q→q<wr.heap.size) from ⟨BM.out.map.lt,BM.out.lt1⟩);refine Rg.lk 86 (exec_fn 44 _ _ _ rfl rfl rfl (Bgcl6 _ _)) ?_;refine (fcMul_any _ _ x0 s wr EU.out.np NS.out.i (fun q hq=>by rw [GS.out.2]; exact gd_mem GX.out hq) (by rw [GX.out.2]; omega) (by rw [GX.out.2]; exact hn1) (by rw [GS.out.2]; exact hn1)).mono ?_
       rintro e1 w201 ⟨xv,rfl,hxv,hb⟩;rw [hx.out] at hxv;refine ⟨_,rfl,?_⟩;go_frame;replace BM:=ι (BM.out.below hb);replace CS:=ι (CS.out.below hb);replace NS:=ι (NS.out.below hb);replace CZ:=ι (CZ.out.below hb);replace CU:=ι (CU.out.below hb);replace EU:=ι (EU.out.below hb);replace EW:=ι (EW.out.below hb);replace K:=ι (Rg.acc K.out hb);clear hb;have EY:=ι (EX.new hxv HSZ0.out.1 HSZ0.out.2);refine Rg.la 18 (xv) ?_;go_frame;clear hxv HSZ0 CS NS CU EU;have HKB:=ι (show ∀ y∈Sk.1,∀ q∈y,q<256 from fun y hy=>gd_b (HBK.out.gd y hy) (by omega))
       obtain ⟨yv,yn,yc,hys⟩:∃ a n c,xv=.slice a n c:=by obtain ⟨a,c,e,-⟩:=EY.out.ints.shape; exact ⟨_,_,_,e⟩
       subst hys
       by_cases hin:x∈Sk.1
       case pos =>
        obtain ⟨lkv,hlkv⟩:=look_some HBK.out.nd HKB.out BM.out.vl hin;have HLV:=ι hlkv;clear hlkv;go_upto_region 21 with (fail);refine Rg.wl ?_;refine Rg.lm 88 ((.map (some mbk))) ?_;go_frame;refine Rg.lm 89 (.slice yv yn yc) ?_;go_frame;refine Rg.lk 90 (exec_fn1 56 _ _ rfl rfl (Bgcl5 _ _)) ?_;refine (key_any EY.out.np (by rw [GY.out.2]; exact hn1) (by rw [GY.out.2]; omega) (gd_b GY.out (by omega))).mono ?_;rintro e1 w202 ⟨rfl,hb⟩;refine ⟨_,rfl,?_⟩;go_frame;replace BM:=ι (BM.out.below hb);replace CZ:=ι (CZ.out.below hb);replace EW:=ι (EW.out.below hb);replace EY:=ι (EY.out.below hb);replace K:=ι (Rg.acc K.out hb);clear hb;have hlk:=Sm.lookup_ok stWords BM.out.map (keyS x);rw [HLV.out,Option.getD_some,Option.isSome_some] at hlk;refine Rg.lr 91 (Rg.exec_lookup _ _ _ _ rfl _ _ rfl rfl hlk) ?_;go_frame;clear hlk;refine Rg.lm 87 (.tuple #[lkv,.bool true]) ?_;go_frame;refine Rg.lr 92 (exec_extract (v:=lkv) _ _ rfl rfl rfl) ?_;go_frame
        refine Rg.lr 93 (exec_extract (v:=.bool true) _ _ rfl rfl rfl) ?_;go_frame;refine Rg.la 19 (lkv) ?_;go_frame;refine Rg.la 20 (.bool true) ?_;go_frame;go_upto_region 22 with (fail);refine Rg.wl ?_;refine Rg.lm 94 (.bool true) ?_;go_frame;refine Rg.lr 95 (exec_not _ _ true rfl rfl) ?_;go_frame;go_upto_region 25 with (fail);refine Rg.wl ?_;refine Rg.lr 111 (exec_bin (R:=.int .i64 (((k+1):Nat):Int)) .add _ _ _ rfl rfl rfl (b_add _ (by omega) (by omega))) ?_;go_frame;refine Rg.lm 76 (.int .i64 (((k+1):Nat):Int)) ?_;go_frame;have HEQ:=ι (show bfP (mlets gs) D i (k+1)=Sk by rw [HNX.out]; unfold bfStep; rw [if_pos (show Ma.mulN x0 (s,z).1∈Sk.1 by rw [show Ma.mulN x0 (s,z).1=x from hx.out]; exact hin)]);go_wp2
        go_roundw
        case rel=>exact ⟨k+1,vk,by go_num,HKM.out,by rw [HEQ.out]; exact BM,K,hwv⟩
        case measure=>simp [intOf]; have:=HKM.out; omega
       case neg =>
        have HNO:=ι (look_none (vs:=vk) HKB.out (gd_b GY.out (by omega)) hin);go_upto_region 21 with (fail);refine Rg.wl ?_;refine Rg.lm 88 ((.map (some mbk))) ?_;go_frame;refine Rg.lm 89 (.slice yv yn yc) ?_;go_frame;refine Rg.lk 90 (exec_fn1 56 _ _ rfl rfl (Bgcl5 _ _)) ?_;refine (key_any EY.out.np (by rw [GY.out.2]; exact hn1) (by rw [GY.out.2]; omega) (gd_b GY.out (by omega))).mono ?_;rintro e1 w202 ⟨rfl,hb⟩;refine ⟨_,rfl,?_⟩;go_frame;replace BM:=ι (BM.out.below hb);replace CZ:=ι (CZ.out.below hb);replace EW:=ι (EW.out.below hb);replace EY:=ι (EY.out.below hb);replace K:=ι (Rg.acc K.out hb);clear hb;have hlk:=Sm.lookup_ok stWords BM.out.map (keyS x);rw [HNO.out,Option.getD_none,Option.isSome_none] at hlk;refine Rg.lr 91 (Rg.exec_lookup _ _ _ _ rfl _ _ rfl rfl hlk) ?_;go_frame;clear hlk;refine Rg.lm 87 (.tuple #[(.slice none 0 0),.bool false]) ?_;go_frame;refine Rg.lr 92 (exec_extract (v:=(.slice none 0 0)) _ _ rfl rfl rfl) ?_;go_frame
        refine Rg.lr 93 (exec_extract (v:=.bool false) _ _ rfl rfl rfl) ?_;go_frame;refine Rg.la 19 ((.slice none 0 0)) ?_;go_frame;refine Rg.la 20 (.bool false) ?_;go_frame;go_upto_region 22 with (fail);refine Rg.wl ?_;refine Rg.lm 94 (.bool false) ?_;go_frame;refine Rg.lr 95 (exec_not _ _ false rfl rfl) ?_;go_frame;have hV1:Below w202.heap.size w202 w202.drew:=(Below.refl _ _).drew;replace BM:=ι (BM.out.below hV1);replace EW:=ι (EW.out.below hV1);replace EY:=ι (EY.out.below hV1);replace CZ:=ι (CZ.out.below hV1);replace K:=ι (Rg.acc K.out hV1);clear hV1;go_upto_region 23 with (fail);have hV0:Below w202.heap.size w202 w202.drew:=(Below.refl _ _).drew;generalize Fup (fun _:Nat=>True) w202 w202.drew=F1 at *;clear hV0;refine Rg.Any.begin (S:=Rg.Both 11 (fun W=>Below w202.drew.heap.size w202.drew W) (fun _=>True)) mix ?_;generalize w202.drew=w203 at *;have hS:∀ (l:Array Bool) W,Below w203.heap.size w203 W→Rg.Both 11 (fun W=>Below w203.heap.size w203 W) (fun _=>True) l W:=fun l W h=>⟨.inr h,trivial⟩
        have hS2:∀ (l:Array Bool) W,l.getD 11 false=true→Rg.Both 11 (fun W=>Below w203.heap.size w203 W) (fun _=>True) l W:=fun l W h=>⟨.inl h,trivial⟩;have hI:Below w203.heap.size w203 w203:=Below.refl _ _;refine Rg.tm 0 11 ((.map (some mbk))) 96 (hS _ _ hI) ?_;go_frame;refine Rg.tm 1 11 (.slice yv yn yc) 97 (hS _ _ hI) ?_;go_frame;refine Rg.tm 3 11 (.slice (some ⟨wb,wo,none⟩) wd.length wc) 99 (hS _ _ hI) ?_;go_frame;refine Rg.tm 5 11 (.slice (some ⟨lb,lo,none⟩) m lc) 101 (hS _ _ hI) ?_;go_frame;refine Rg.tm 6 11 (.int .i64 ((k:Nat):Int)) 102 (hS _ _ hI) ?_;go_frame;refine Rg.tg 7 11 (.pointer (some ⟨lb,lo+k,none⟩)) 103 rfl rfl (Rg.yields_index slInts _ _ rfl rfl lb (lo) (m) lc (k) rfl rfl HKM.out) (hS _ _ hI) ?_;go_frame;refine Rg.Any.takeT (i:=8) (t:=11) (v:=.int .i64 z) (some 104) rfl rfl (by kernel_rfl) (by kernel_rfl) (by kernel_rfl) (fun _ _ _ h=>h) rfl (by kernel_rfl) rfl (Rg.yields_cell _ _ rfl rfl ⟨lb,lo+k,none⟩ rfl (fun W hW=>run_loadInt ((Below.cell (p:=⟨lb,lo+k,none⟩) hW CZ.out.lt).trans CZ.out.cell))) (hS _ _ hI) ?_;go_frame
        refine Rg.Any.c2f1u (Pu:=fun u=>u=.string (keyS x)) (hp:=fun _ _ h=>h) (i:=2) (k:=4) (j:=9) (di:=98) (dk:=100) (dj:=105) (I:=fun W=>Below w203.heap.size w203 W∧w203.heap.size≤W.heap.size) (R0:=fun _=>True) (Ri:=fun u _=>u=.string (keyS x)) (Rk:=fun x W=>OwI w203.heap.size W x wd) (Rj:=fun v W=>Rg.BlkF w203.heap.size [.int .i64 z] v W) (fun l W h=>hS l W h.1)
         (by decide) (by decide) (by decide) (by decide) (by kernel_rfl) (by kernel_rfl) (by kernel_rfl) (by kernel_rfl) (by kernel_rfl)
         (fun _ _ _ _=>trivial) (fun _ _ _ _ h=>h) (fun _ _ _ hb h=>h.below hb) (fun _ _ _ hb h=>h.below hb) ?_ ?_ ?_ ⟨hI,Nat.le_refl _⟩ (trivial) ?_
        ·intro b hb W hW
         refine Rg.doesCall rfl rfl (by rcases hb with rfl | ⟨u,rfl⟩ <;> rfl) _ _ (exec_fn1 56 _ _ rfl (by rcases hb with rfl | ⟨u,rfl⟩ <;> rfl) (Bgcl5 _ _)) ?_
         refine (key_any (EY.out.below hW.1).np (by rw [GY.out.2]; exact hn1) (by rw [GY.out.2]; omega) (gd_b GY.out (by omega))).mono ?_;rintro e2 W2 ⟨rfl,hb2⟩;exact ⟨_,rfl,⟨Rg.acc hW.1 hb2,Nat.le_trans hW.2 hb2.size⟩,rfl,hb2⟩
        ·intro b hb W hW
         exact Rg.doesRun rfl rfl (by rcases hb with rfl | ⟨u,rfl⟩ | ⟨u,v,rfl⟩ <;> rfl) (Rg.exec_buildSlice _ _ _ rfl (.int .i64 z) (by rcases hb with rfl | ⟨u,rfl⟩ | ⟨u,v,rfl⟩ <;> rfl) (run_build1w W z)) ⟨⟨Rg.acc hW.1 ((Below.refl _ _).alloc (Nat.le_refl _) _),by simp; have:=hW.2; omega⟩,Rg.BlkF.new W [.int .i64 z] 3 hW.2,(Below.refl _ _).alloc (Nat.le_refl _) _⟩
        ·intro u b hb W hW h0 hu
         refine Rg.doesCall rfl rfl (by rcases hb with rfl | ⟨v,rfl⟩ <;> rfl) _ _ (exec_fn1 80 _ _ rfl (by rcases hb with rfl | ⟨v,rfl⟩ <;> rfl) (Bgcl7 _ _)) ?_
         refine (CloneW_any _ wd W (EW.out.below hW.1).ints ⟨_,_,_,rfl⟩ (by have:=HWL.out; omega)).mono ?_;rintro e2 W2 ⟨v2,rfl,hrow,hb2⟩;exact ⟨_,rfl,⟨Rg.acc hW.1 hb2,Nat.le_trans hW.2 hb2.size⟩,⟨owns_weak hrow hW.2⟩,fun v hv=>hv.below hb2⟩
        rintro w204 fu fx fv rfl hb hk hj;have hI2_f:=hb.1;have hVsz:=hb.2;clear hb hI;go_frame;have FK:=ι hk;have FJ:=ι hj;obtain ⟨pj,hje,hj0,hj1,hj2⟩:=FJ.out;subst hje;obtain ⟨v50,X50,r1,r2,r3,r4,-⟩:=app_run (P:=Tryz.prog) slWord 26 FK.out.own hI2_f.size pj 1 (u:=.int .i64 z) (hj2 0 (by simp)) rfl (by have:=HWL.out; omega);have hI3_g:=hI2_f.grown r3 hI2_f.size (fun j hj=>(FK.out.own.lt j hj).1);refine Rg.Any.one (i:=10) (by kernel_rfl) (Rg.Any.run (some 106) rfl rfl rfl (Rg.exec_append _ _ _ rfl rfl rfl r1) (hS _ _ hI3_g) ?_);go_frame;clear hI2_f;clear FK;clear FJ;have FX:=ι r2;have hEV:EX X50 mbk (.slice (some ⟨fb2,fo2,none⟩) Sk.1.length kc) v50 (wd++[z]):=⟨OwI.fi (B:=w203.heap.size) ⟨by rw [List.length_append,List.map_append]; exact FX.out⟩ (by rw [List.length_append]; have:=HWL.out; simp; omega) (fun q g1 g2=>⟨g2,fun e=>by have:=BM.out.map.lt; omega,fun e=>by have:=BM.out.lt1 q e; omega⟩)⟩
        have hWS:∃ b o n c,v50=.slice (some ⟨b,o,none⟩) n c:=by obtain ⟨b,o,c,e⟩:=own_some FX.out (by omega); exact ⟨b,o,_,c,e⟩
        obtain ⟨X51,r9,hbm,hk9⟩:=(BM.out.below hI3_g).ins stWords (x:=x) hEV hWS HNO.out;have hK9:=Rg.Kp.below (Rg.acc K.out hI3_g) hk9 (fun k e=>by rw [e]; exact BM.out.mlo);have hEY:=(EY.out.below hI3_g).kp hk9 (fun k e=>.inl e);refine Rg.Any.one (i:=11) (by kernel_rfl) (Rg.Any.runSkip none rfl rfl rfl (Rg.exec_mapUpdate _ _ _ _ rfl _ _ _ rfl rfl rfl r9) (hS2 _ _ rfl) ?_);go_frame;refine Rg.Any.done (by kernel_rfl) ?_ _;clear hS2;clear hS hI3_g;replace BM:=ι hbm;replace K:=ι hK9;replace EY:=ι hEY;clear hbm hK9 hEY hk9 r9 r1 r2 r3 r4 hEV hWS FX EW CZ;obtain ⟨a9,c9,X9,r1,hbm,hbel⟩:=BM.out.push EY.out ⟨_,_,_,rfl⟩ (by have:=HLK.out; omega) 22;have hK9:=hbel K.out;have HBM:=ι hbm;have HK9:=ι hK9;clear hbm hK9 hbel BM K;go_upto_region 24 with (fail);refine Rg.wl ?_;refine Rg.lm 107 (.slice (some ⟨fb2,fo2,none⟩) Sk.1.length kc) ?_;go_frame;refine Rg.lm 108 (.slice yv yn yc) ?_;go_frame
        refine Rg.lr 109 (Rg.exec_buildSlice _ _ _ rfl (.slice yv yn yc) rfl (run_build1P X51 _ ⟨_,_,_,rfl⟩)) ?_;go_frame;refine Rg.lr 110 (Rg.exec_append _ _ _ rfl rfl rfl r1) ?_;go_frame;refine Rg.la 12 (.slice a9 (Sk.1.length+1) c9) ?_;go_frame;go_upto_region 25 with (fail);refine Rg.wl ?_;refine Rg.lr 111 (exec_bin (R:=.int .i64 (((k+1):Nat):Int)) .add _ _ _ rfl rfl rfl (b_add _ (by omega) (by omega))) ?_;go_frame;refine Rg.lm 76 (.int .i64 (((k+1):Nat):Int)) ?_;go_frame;have HEQ:=ι (show bfP (mlets gs) D i (k+1)=(Sk.1++[x],Sk.2++[wd++[z]]) by rw [HNX.out]; unfold bfStep; rw [show Ma.mulN x0 (s,z).1=x from hx.out,if_neg hin]);have HV9:=ι (show (vk++[v50])[i]?=some (.slice (some ⟨wb,wo,none⟩) wd.length wc) by rw [List.getElem?_append_left (List.getElem?_eq_some_iff.1 hwv.out).1]; exact hwv.out);clear r1;go_wp2
        go_roundw
        case rel=>exact ⟨k+1,_,by go_num,HKM.out,by rw [HEQ.out]; exact HBM,HK9,HV9⟩
        case measure=>simp [intOf]; have:=HKM.out; omega

theorem Bhcl0 (args:Array Value) (w:World):(callFunc 45 args).run Tryz.prog w=.ok (.enter 45 args) w:=by kernel_rfl
theorem Bhcl4 (args:Array Value) (w:World):(callFunc 41 args).run Tryz.prog w=.ok (.enter 41 args) w:=by kernel_rfl
def ltV (gs:List (List Nat)) (x:Int):List Nat:=if x<0 then Ma.invN (gs.getD (-x - 1).toNat []) else gs.getD (x - 1).toNat []
def okW (n:Nat) (u:List Int):Prop:=∀ x∈u,x≠0∧x≤(n:Int)∧-(n:Int)≤x
def evN (N:Nat) (gs:List (List Nat)) (u:List Int):List Nat:=u.foldl (fun p x=>Ma.mulN p (ltV gs x)) (Ma.oneN N)
theorem ltV_neg {gs:List (List Nat)} {k:Nat} (hk:k<gs.length):ltV gs (-((k:Nat):Int) - 1)=Ma.invN gs[k]:=by
 unfold ltV;rw [if_pos (by omega),show (-(-((k:Nat):Int) - 1) - 1).toNat=k by omega,List.getD_eq_getElem?_getD,List.getElem?_eq_getElem hk]; rfl
theorem ltV_pos {gs:List (List Nat)} {k:Nat} (hk:k<gs.length):ltV gs (((k:Nat):Int)+1)=gs[k]:=by
 unfold ltV;rw [if_neg (by omega),show (((k:Nat):Int)+1 - 1).toNat=k by omega,List.getD_eq_getElem?_getD,List.getElem?_eq_getElem hk]; rfl
theorem ltV_gd {N:Nat} {gs:List (List Nat)} (hg:∀ s∈gs,Gd N s) {x:Int} (h:x≠0∧x≤(gs.length:Int)∧-(gs.length:Int)≤x):Gd N (ltV gs x):=by
 by_cases h0:x<0
 ·obtain ⟨k,rfl⟩:∃ k:Nat,x = -((k:Nat):Int) - 1:=⟨(-x - 1).toNat,by omega⟩
  rw [ltV_neg (show k<gs.length by omega)];exact Cm.gd_inv (hg _ (List.getElem_mem _))
 ·obtain ⟨k,rfl⟩:∃ k:Nat,x=((k:Nat):Int)+1:=⟨(x - 1).toNat,by omega⟩
  rw [ltV_pos (show k<gs.length by omega)];exact hg _ (List.getElem_mem _)
theorem evf_gd {N:Nat} {gs:List (List Nat)} (hg:∀ s∈gs,Gd N s):∀ {u:List Int} {p:List Nat},okW gs.length u→Gd N p→Gd N (u.foldl (fun p x=>Ma.mulN p (ltV gs x)) p)
 | [],p,_,hp=>hp
 | x :: u,p,hu,hp=>evf_gd (u:=u) hg (fun y hy=>hu y (List.mem_cons_of_mem _ hy)) (Cm.gd_mul hp (ltV_gd hg (hu x (List.mem_cons_self ..))))
def EvV (d:Int) (ll:List (List Int)) (u:List Int) (l:List Int) (c:Int):Prop :=
 (Ma.gchk d ll≠0∧c=Ma.gchk d ll∧l=[])∨(Ma.gchk d ll=0∧4000<u.length∧c=4∧l=[])∨(Ma.gchk d ll=0∧u.length≤4000∧¬ okW ll.length u∧c=2∧l=[]) ∨
 (Ma.gchk d ll=0∧u.length≤4000∧okW ll.length u∧∃ (N:Nat) (gs:List (List Nat)),d=N∧ll=gs.map Ma.ofN∧c=0∧l=Ma.ofN (evN N gs u))
theorem ev_same {d:Int} {ll:List (List Int)} {u l l':List Int} {c c':Int} {N N':Nat} {gs gs':List (List Nat)} (e1:d=N) (e2:ll=gs.map Ma.ofN) (f1:d=N') (f2:ll=gs'.map Ma.ofN) (a1:c=0) (b1:c'=0) (a2:l=Ma.ofN (evN N gs u)) (b2:l'=Ma.ofN (evN N' gs' u)):l=l'∧c=c':=by
 obtain rfl:N=N':=by omega
 have:=map_ofN_inj (e2.symm.trans f2);subst this;exact ⟨a2.trans b2.symm,a1.trans b1.symm⟩
theorem EvV.uniq {d:Int} {ll:List (List Int)} {u l l':List Int} {c c':Int} (h:EvV d ll u l c) (h':EvV d ll u l' c'):l=l'∧c=c':=by
 rcases h with ⟨a0,a1,a2⟩ | ⟨a0,a3,a1,a2⟩ | ⟨a0,a3,a4,a1,a2⟩ | ⟨a0,a3,a4,N,gs,e1,e2,a1,a2⟩ <;>
  rcases h' with ⟨b0,b1,b2⟩ | ⟨b0,b3,b1,b2⟩ | ⟨b0,b3,b4,b1,b2⟩ | ⟨b0,b3,b4,N',gs',f1,f2,b1,b2⟩ <;>
  first
  | exact absurd b0 a0
  | exact absurd a0 b0
  | omega
  | exact absurd b4 a4
  | exact absurd a4 b4
  | exact ⟨a2.trans b2.symm,a1.trans b1.symm⟩
  | exact ev_same e1 e2 f1 f2 a1 b1 a2 b2
def EvPost (d:Int) (ll:List (List Int)) (u:List Int) (w:World) (ed:Ending) (w':World):Prop:=∃ v l c,ed=.returned (.tuple #[v,.int .i64 c])∧EvV d ll u l c∧Rg.Ints w' v l∧Below w.heap.size w w'
theorem exec_fnc2 {o:Oper} {a:Act} {w:World} {u1 x1 x2:Value} (F:FuncId) (f x y:Operand) (tys:Array TypeId) (ho:o.op=.call { callee:=.value f,args:=#[x,y],argTypes:=tys }) (hf:a.eval f=.func (.func F) #[] #[u1]) (hx:a.eval x=x1) (hy:a.eval y=x2)
  (hF:(callFunc F #[x1,x2,u1]).run Tryz.prog w=.ok (.enter F #[x1,x2,u1]) w):(execOp a.eval o).run Tryz.prog w=.ok (.enter F #[x1,x2,u1]) w:=by
 unfold execOp;simp [ho,hx,hy,hf,resolve,invoke,Deferred.ofValue,hF]
theorem clEv1 (args:Array Value) (w:World):(callFunc 43 args).run Tryz.prog w=.ok (.enter 43 args) w:=by kernel_rfl
def E1P (p s:List Nat) (w:World) (ed:Ending) (w':World):Prop:=∃ v,ed=.returned v∧Rg.NP w' v (Ma.mulN p s)∧Below w.heap.size w w'
theorem eval1_any {N gb:Nat} {ga:Option Addr} {gs:List (List Nat)} {gc:Nat} {pv:Value} {q:List Nat} {x:Int} {w:World} (hG:GI w gb ((N:Nat):Int) ga (gs.map Ma.ofN) gc) (hg:∀ s∈gs,Gd N s) (hN:1≤N) (hN2:N≤64) (hgl:gs.length≤16) (hp:Rg.NP w pv q) (gq:Gd N q) (hx:x≠0∧x≤(gs.length:Int)∧-(gs.length:Int)≤x) :
  Calls Tryz.prog 43 #[pv,.int .i64 x,.pointer (some ⟨gb,0,none⟩)] w (E1P q (ltV gs x) w):=by
 have G0:=ι hG;have HG:=ι hg;have NQ:=ι (NpI.mk hp);have GQ:=ι gq;have K:=ι (Below.refl w.heap.size w);clear hG hg hp gq
 by_cases h0:x<0
 case pos =>
  obtain ⟨k,rfl⟩:∃ k:Nat,x = -((k:Nat):Int) - 1:=⟨(-x - 1).toNat,by omega⟩
  have hk:k<gs.length:=by omega
  have HK:=ι hk;rw [ltV_neg hk];generalize hs0:gs[k]'hk=s;have hs:=ι hs0;clear hs0;have GS:=ι (show Gd N s from hs.out▸HG.out _ (List.getElem_mem _));obtain ⟨b1,o1,sa,sc,e1,hb1,hc1,hr1⟩:=rows_get G0.out.rows (i:=k) (by rw [List.length_map]; exact hk);subst e1
  have e5:((gs.map Ma.ofN)[k]'(by rw [List.length_map]; exact hk))=Ma.ofN s:=by rw [List.getElem_map,hs.out]
  rw [e5] at hc1 hr1;have CS:=ι (CL.mk hc1 hb1);have NS:=ι (NpI.mk hr1);clear hc1 hb1 hr1 e5
  go_enter Tryz.func43,Tryz.ntmps43
  go_upto_region 0 with (fail);refine Rg.wl ?_;refine Rg.la 5 (.slice none 0 0) ?_;go_frame;go_upto_region 1 with (fail);refine Rg.wl ?_;refine Rg.lm 6 (.int .i64 (-((k:Nat):Int) - 1)) ?_;go_frame;refine Rg.lr 7 (exec_bin (R:=.bool true) .lss _ _ _ rfl rfl rfl (b_lss _ (decide_eq_true h0))) ?_;go_frame;go_upto_region 2 with (fail);refine Rg.wl ?_;refine Rg.lm 8 (pv) ?_;go_frame;refine Rg.lr 9 (exec_fieldG _ rfl rfl) ?_;go_frame;refine Rg.lr 10 (Rg.exec_load (v:=.slice (some ⟨b1,o1,none⟩) (gs.map Ma.ofN).length gc) _ _ rfl ⟨gb,1,none⟩ rfl (Rg.run_loadSl _ _ Tryz.underlying22 G0.out.c1)) ?_;go_frame;refine Rg.lm 11 (.int .i64 (-((k:Nat):Int) - 1)) ?_;go_frame;refine Rg.lr 12 (exec_neg (r:=((k:Nat):Int)+1) _ rfl rfl (by omega) (by omega)) ?_;go_frame;refine Rg.lr 13 (exec_bin (R:=.int .i64 ((k:Nat):Int)) .sub _ _ _ rfl rfl rfl (b_sub _ (by omega) (by omega))) ?_;go_frame
  refine Rg.lr 14 (exec_indexS slPerms _ _ rfl b1 (o1) ((gs.map Ma.ofN).length) gc (k) rfl rfl (by rw [List.length_map]; exact HK.out)) ?_;go_frame;refine Rg.lr 15 (Rg.exec_load (v:=(.slice sa (Ma.ofN s).length sc)) _ _ rfl ⟨b1,o1+k,none⟩ rfl (Rg.run_loadSl _ _ Tryz.underlying30 CS.out.cell)) ?_;go_frame;refine Rg.lk 16 (exec_fn1 45 _ _ rfl rfl (Bhcl0 _ _)) ?_;refine (fcInv_any _ s w NS.out.i GS.out.1 (by rw [GS.out.2]; omega) (by rw [GS.out.2]; exact hN)).mono ?_;rintro e1 w1 ⟨iv,rfl,hiv,hb⟩;refine ⟨_,rfl,?_⟩;go_frame;replace G0:=ι (G0.out.below hb);replace NQ:=ι (NQ.out.below hb);replace CS:=ι (CS.out.below hb);replace NS:=ι (NS.out.below hb);replace K:=ι (Rg.acc K.out hb);clear hb;have NV:=ι (NpI.mk hiv.1);refine Rg.lk 17 (exec_fn 44 _ _ _ rfl rfl rfl (Bgcl6 _ _)) ?_;refine (fcMul_any _ _ q (Ma.invN s) w1 NQ.out.i NV.out.i (fun z hz=>by rw [show ((Ma.invN s)).length=N from (Cm.gd_inv GS.out).2]; exact gd_mem GQ.out hz) (by rw [GQ.out.2]; omega) (by rw [GQ.out.2]; exact hN) (by rw [show ((Ma.invN s)).length=N from (Cm.gd_inv GS.out).2]; exact hN)).mono ?_
  rintro e1 w2 ⟨mv,rfl,hmv,hb⟩;refine ⟨_,rfl,?_⟩;go_frame;replace G0:=ι (G0.out.below hb);replace NQ:=ι (NQ.out.below hb);replace CS:=ι (CS.out.below hb);replace NS:=ι (NS.out.below hb);replace NV:=ι (NV.out.below hb);replace K:=ι (Rg.acc K.out hb);clear hb;refine Rg.la 5 (mv) ?_;go_frame;go_wp2;go_ret;exact ⟨_,rfl,hmv.1,K.out⟩
 case neg =>
  obtain ⟨k,rfl⟩:∃ k:Nat,x=((k:Nat):Int)+1:=⟨(x - 1).toNat,by omega⟩
  have hk:k<gs.length:=by omega
  have HK:=ι hk;rw [ltV_pos hk];generalize hs0:gs[k]'hk=s;have hs:=ι hs0;clear hs0;have GS:=ι (show Gd N s from hs.out▸HG.out _ (List.getElem_mem _));obtain ⟨b1,o1,sa,sc,e1,hb1,hc1,hr1⟩:=rows_get G0.out.rows (i:=k) (by rw [List.length_map]; exact hk);subst e1
  have e5:((gs.map Ma.ofN)[k]'(by rw [List.length_map]; exact hk))=Ma.ofN s:=by rw [List.getElem_map,hs.out]
  rw [e5] at hc1 hr1;have CS:=ι (CL.mk hc1 hb1);have NS:=ι (NpI.mk hr1);clear hc1 hb1 hr1 e5
  go_enter Tryz.func43,Tryz.ntmps43
  go_upto_region 0 with (fail);refine Rg.wl ?_;refine Rg.la 5 (.slice none 0 0) ?_;go_frame;go_upto_region 1 with (fail);refine Rg.wl ?_;refine Rg.lm 6 (.int .i64 (((k:Nat):Int)+1)) ?_;go_frame;refine Rg.lr 7 (exec_bin (R:=.bool false) .lss _ _ _ rfl rfl rfl (b_lss _ Rg.dF)) ?_;go_frame;go_upto_region 3 with (fail);refine Rg.wl ?_;refine Rg.lm 18 (pv) ?_;go_frame;refine Rg.lr 19 (exec_fieldG _ rfl rfl) ?_;go_frame;refine Rg.lr 20 (Rg.exec_load (v:=.slice (some ⟨b1,o1,none⟩) (gs.map Ma.ofN).length gc) _ _ rfl ⟨gb,1,none⟩ rfl (Rg.run_loadSl _ _ Tryz.underlying22 G0.out.c1)) ?_;go_frame;refine Rg.lm 21 (.int .i64 (((k:Nat):Int)+1)) ?_;go_frame;refine Rg.lr 22 (exec_bin (R:=.int .i64 ((k:Nat):Int)) .sub _ _ _ rfl rfl rfl (b_sub _ (by omega) (by omega))) ?_;go_frame;refine Rg.lr 23 (exec_indexS slPerms _ _ rfl b1 (o1) ((gs.map Ma.ofN).length) gc (k) rfl rfl (by rw [List.length_map]; exact HK.out)) ?_;go_frame
  refine Rg.lr 24 (Rg.exec_load (v:=(.slice sa (Ma.ofN s).length sc)) _ _ rfl ⟨b1,o1+k,none⟩ rfl (Rg.run_loadSl _ _ Tryz.underlying30 CS.out.cell)) ?_;go_frame;refine Rg.lk 25 (exec_fn 44 _ _ _ rfl rfl rfl (Bgcl6 _ _)) ?_;refine (fcMul_any _ _ q s w NQ.out.i NS.out.i (fun z hz=>by rw [show (s).length=N from (GS.out).2]; exact gd_mem GQ.out hz) (by rw [GQ.out.2]; omega) (by rw [GQ.out.2]; exact hN) (by rw [show (s).length=N from (GS.out).2]; exact hN)).mono ?_;rintro e1 w51 ⟨mv,rfl,hmv,hb⟩;refine ⟨_,rfl,?_⟩;go_frame;replace G0:=ι (G0.out.below hb);replace NQ:=ι (NQ.out.below hb);replace CS:=ι (CS.out.below hb);replace NS:=ι (NS.out.below hb);replace K:=ι (Rg.acc K.out hb);clear hb;refine Rg.la 5 (mv) ?_;go_frame;go_wp2;go_ret;exact ⟨_,rfl,hmv.1,K.out⟩
theorem foldE_any {N gb:Nat} {ga:Option Addr} {gs:List (List Nat)} {gc:Nat} {wv pv:Value} {q:List Nat} {u:List Int} {w:World} (hG:GI w gb ((N:Nat):Int) ga (gs.map Ma.ofN) gc) (hg:∀ s∈gs,Gd N s) (hN:1≤N) (hN2:N≤64) (hgl:gs.length≤16) (hu:Rg.Ints w wv u) (hul:u.length≤4000) (hp:Rg.NP w pv q) (gq:Gd N q) (hok:okW gs.length u) :
  Calls Tryz.prog 41 #[wv,pv,(.func (.func 43) #[] #[.pointer (some ⟨gb,0,none⟩)])] w fun ed w'=>∃ v,ed=.returned v∧Rg.NP w' v (u.foldl (fun p x=>Ma.mulN p (ltV gs x)) q)∧Below w.heap.size w w':=by
 obtain ⟨wa,wc,rfl,-⟩:=hu.shape;have G0:=ι hG;have HG:=ι hg;have HU:=ι hu;have HOK:=ι hok;have NQ0:=ι (NpI.mk hp);have GQ0:=ι gq;have K:=ι (Below.refl w.heap.size w);clear hG hg hp gq hu hok
 go_enter Tryz.func41,Tryz.ntmps41
 go_upto_region 0 with (fail);refine Rg.wl ?_;refine Rg.la 6 (.slice none 0 0) ?_;go_frame;go_upto_region 1 with (fail);refine Rg.wl ?_;refine Rg.lm 9 (.slice wa u.length wc) ?_;go_frame;refine Rg.lr 10 (exec_len _ _ _ rfl Tryz.underlying25 _ _ _ rfl) ?_;go_frame;refine Rg.lm 11 (.int .i64 ((0:Nat):Int)) ?_;go_frame;go_wp2
 go_loopw [1,11] (fun vv iv wr=>∃ (i:Nat) (q2:List Nat),iv=.int .i64 ((i:Nat):Int)∧i≤u.length∧Hid (NpI wr vv (Ma.ofN q2))∧Hid (Gd N q2)∧Hid ((u.take i).foldl (fun p x=>Ma.mulN p (ltV gs x)) q=q2)∧Hid (Below w.heap.size w wr)) (fun _ iv _=>u.length - (intOf iv).toNat)
 case atStart=>exact ⟨0,q,rfl,Nat.zero_le _,NQ0,GQ0,ι rfl,K⟩
 case round =>
  clear NQ0 GQ0 K;obtain ⟨i,q2,rfl,hi,NQ,GQ,HE,K⟩:=hrel;obtain ⟨va,vc,rfl,-⟩:=NQ.out.i.shape
  by_cases hil:i<u.length
  case neg =>
   have HT:=ι (show u.foldl (fun p x=>Ma.mulN p (ltV gs x)) q=q2 by rw [← HE.out,List.take_of_length_le (by omega)]);go_upto_region 2 with (fail);refine Rg.wl ?_;refine Rg.lr 12 (exec_bin (R:=.bool false) .lss _ _ _ rfl rfl rfl (b_lss _ Rg.dF)) ?_;go_frame;go_upto_region 6 with (fail);refine Rg.wl ?_;refine Rg.lm 20 (.slice va (Ma.ofN q2).length vc) ?_;go_frame;refine Rg.la 6 (.slice va (Ma.ofN q2).length vc) ?_;go_frame;go_wp2;go_ret;exact ⟨_,rfl,by rw [HT.out]; exact NQ.out.i,K.out⟩
  case pos =>
   have HIL:=ι hil;obtain ⟨b,o,e1,hb0,hc0⟩:=ints_get HU.out hil;subst e1;obtain ⟨x,hx⟩:∃ x,Hid (u[i]'hil=x):=⟨_,ι rfl⟩;rw [hx.out] at hc0;have CX:=ι ((CL.mk hc0 hb0).below K.out);have GI2:=ι (G0.out.below K.out);have HXO:=ι (show x≠0∧x≤(gs.length:Int)∧-(gs.length:Int)≤x from hx.out▸HOK.out _ (List.getElem_mem hil));have HEN:=ι (show (u.take (i+1)).foldl (fun p x=>Ma.mulN p (ltV gs x)) q=Ma.mulN q2 (ltV gs x) by rw [List.take_succ_eq_append_getElem hil,List.foldl_append,HE.out,hx.out]; rfl);clear hb0 hc0;go_upto_region 2 with (fail);refine Rg.wl ?_;refine Rg.lr 12 (exec_bin (R:=.bool true) .lss _ _ _ rfl rfl rfl (b_lss _ Rg.dT)) ?_;go_frame;go_upto_region 3 with (fail);refine Rg.wl ?_;refine Rg.lr 13 (exec_indexS slInts _ _ rfl b (o) (u.length) wc (i) rfl rfl HIL.out) ?_;go_frame;refine Rg.lr 14 (Rg.exec_load (v:=.int .i64 x) _ _ rfl ⟨b,o+i,none⟩ rfl (run_loadInt CX.out.cell)) ?_;go_frame
   refine Rg.la 8 (.int .i64 x) ?_;go_frame;go_upto_region 4 with (fail);refine Rg.wl ?_;refine Rg.lm 15 ((.func (.func 43) #[] #[.pointer (some ⟨gb,0,none⟩)])) ?_;go_frame;refine Rg.lm 16 (.slice va (Ma.ofN q2).length vc) ?_;go_frame;refine Rg.lm 17 (.int .i64 x) ?_;go_frame;refine Rg.lk 18 (exec_fnc2 43 _ _ _ _ rfl rfl rfl rfl (clEv1 _ _)) ?_;refine (eval1_any GI2.out HG.out hN hN2 hgl NQ.out.i GQ.out HXO.out).mono ?_;rintro e1 w21 ⟨mv,rfl,hmv,hb⟩;refine ⟨_,rfl,?_⟩;go_frame;replace NQ:=ι (NQ.out.below hb);replace CX:=ι (CX.out.below hb);replace GI2:=ι (GI2.out.below hb);replace K:=ι (Rg.acc K.out hb);clear hb;have NM:=ι (NpI.mk hmv);refine Rg.la 1 (mv) ?_;go_frame;go_upto_region 5 with (fail);refine Rg.wl ?_;refine Rg.lr 19 (exec_bin (R:=.int .i64 (((i+1):Nat):Int)) .add _ _ _ rfl rfl rfl (b_add _ (by omega) (by omega))) ?_;go_frame;refine Rg.lm 11 (.int .i64 (((i+1):Nat):Int)) ?_;go_frame
   go_wp2
   go_roundw
   case rel=>exact ⟨i+1,_,by go_num,HIL.out,NM,ι (Cm.gd_mul GQ.out (ltV_gd HG.out HXO.out)),HEN,K⟩
   case measure=>simp [intOf]; have:=HIL.out; omega
theorem fcEval_any (gv wv:Value) (d:Int) (ll:List (List Int)) (u:List Int) (w:World) (h:Rg.Rows w gv ll) (hu:Rg.Ints w wv u) :
  Calls Tryz.prog 13 #[.agg #[.int .i64 d,gv],wv] w (EvPost d ll u w):=by
 obtain ⟨wa,wc,rfl,-,-,hum,-⟩:=hu.shape;have HU0:=ι (NpI.mk hu);clear hu;obtain ⟨ga,gc,rfl,hga,hba⟩:=GI.enter (d) h;have K:=ι hba;have G0:=ι hga;clear h hga hba;obtain ⟨ck,hck⟩:∃ c,Hid (Ma.gchk d ll=c):=⟨_,ι rfl⟩;replace HU0:=ι (HU0.out.below ((Below.refl _ _).alloc (Nat.le_refl _) (.cells #[.int .i64 d,.slice ga ll.length gc] 24)))
 go_enter Tryz.func13,Tryz.ntmps13
 go_upto_region 0 with (fail);refine Rg.wl ?_;refine Rg.lr 2 (Rg.exec_box _ _ rfl rfl) ?_;go_frame;refine Rg.la 4 (.slice none 0 0) ?_;go_frame;refine Rg.la 5 (.int .i64 0) ?_;go_frame;obtain ⟨gb,hgb⟩:∃ gb,w.heap.size=gb:=⟨_,rfl⟩;rw [hgb] at G0 ⊢;generalize w.alloc (.cells #[.int .i64 d,.slice ga ll.length gc] 24)=w0 at *;clear hgb;go_upto_region 1 with (fail);refine Rg.wl ?_;refine Rg.lr 9 (Rg.exec_load (v:=.agg #[.int .i64 d,.slice ga ll.length gc]) _ _ rfl ⟨gb,0,none⟩ rfl (run_loadG G0.out.c0 G0.out.c1)) ?_;go_frame;refine Rg.lk 10 (exec_fn1 40 _ _ rfl rfl (Wbcl0 _ _)) ?_;refine (orbitCheck_any _ d ll w0 G0.out.rows).mono ?_;rintro e1 w1 ⟨rfl,hb⟩;rw [hck.out];refine ⟨_,rfl,?_⟩;go_frame;replace G0:=ι (G0.out.below hb);replace HU0:=ι (HU0.out.below hb);replace K:=ι (Rg.acc K.out hb);clear hb;refine Rg.la 6 (.int .i64 ck) ?_;go_frame
 by_cases h0:ck=0
 case neg =>
  skip
  go_upto_region 2 with (fail);refine Rg.wl ?_;refine Rg.lm 11 (.int .i64 ck) ?_;go_frame;refine Rg.lr 12 (exec_bin (R:=.bool true) .neq _ _ _ rfl rfl rfl (b_neqB _ (decide_eq_true h0))) ?_;go_frame;go_upto_region 3 with (fail);refine Rg.wl ?_;refine Rg.lm 13 (.int .i64 ck) ?_;go_frame;refine Rg.la 4 (.slice none 0 0) ?_;go_frame;refine Rg.la 5 (.int .i64 ck) ?_;go_frame;go_wp2
  go_ret2
  exact ⟨_,[],ck,rfl,.inl ⟨by rw [hck.out]; exact h0,hck.out.symm,rfl⟩,ints_nil _,K.out⟩
 case pos =>
  have HZ:=ι (hck.out.trans h0);obtain ⟨D,gs,rfl,rfl,hgg,hn1,hn2,hgl⟩:=gchk_ok HZ.out;have HGD:=ι (show ∀ s∈gs,Gd D s from fun s hs=>hgg s hs);have HGL:=ι hgl;clear hgg hck;go_upto_region 2 with (fail);refine Rg.wl ?_;refine Rg.lm 11 (.int .i64 ck) ?_;go_frame;refine Rg.lr 12 (exec_bin (R:=.bool false) .neq _ _ _ rfl rfl rfl (b_neqB _ (decide_eq_false (fun e=>e h0)))) ?_;go_frame;clear h0
  by_cases hlong:4000<u.length
  case pos =>
   skip
   go_upto_region 4 with (fail);refine Rg.wl ?_;refine Rg.lm 14 (.slice wa u.length wc) ?_;go_frame;refine Rg.lr 15 (exec_len _ _ _ rfl Tryz.underlying26 _ _ _ rfl) ?_;go_frame;refine Rg.lr 16 (exec_bin (R:=.bool true) .gtr _ _ _ rfl rfl rfl (b_gtr _ Rg.dT)) ?_;go_frame;go_upto_region 5 with (fail);refine Rg.wl ?_;refine Rg.la 4 (.slice none 0 0) ?_;go_frame;refine Rg.la 5 (.int .i64 ((4:Nat):Int)) ?_;go_frame;go_wp2
   go_ret2
   exact ⟨_,[],4,rfl,.inr (.inl ⟨HZ.out,hlong,rfl,rfl⟩),ints_nil _,K.out⟩
  case neg =>
   have hul:u.length≤4000:=by omega
   clear hlong;go_upto_region 4 with (fail);refine Rg.wl ?_;refine Rg.lm 14 (.slice wa u.length wc) ?_;go_frame;refine Rg.lr 15 (exec_len _ _ _ rfl Tryz.underlying26 _ _ _ rfl) ?_;go_frame;refine Rg.lr 16 (exec_bin (R:=.bool false) .gtr _ _ _ rfl rfl rfl (b_gtr _ Rg.dF)) ?_;go_frame;go_upto_region 6 with (fail);refine Rg.wl ?_;refine Rg.lm 17 (.slice wa u.length wc) ?_;go_frame;refine Rg.lr 18 (exec_len _ _ _ rfl Tryz.underlying26 _ _ _ rfl) ?_;go_frame;refine Rg.lm 19 (.int .i64 ((0:Nat):Int)) ?_;go_frame;go_wp2
   go_loopw [19] (fun iv wr=>∃ i:Nat,iv=.int .i64 ((i:Nat):Int)∧i≤u.length∧Hid (okW (gs.map Ma.ofN).length (u.take i))∧wr=w1) (fun iv _=>u.length - (intOf iv).toNat)
   case atStart=>exact ⟨0,rfl,Nat.zero_le _,ι (fun x hx=>by simp at hx),rfl⟩
   case round =>
    obtain ⟨i,rfl,hi,HOK,rfl⟩:=hrel
    by_cases hil:i<u.length
    case neg =>
     have HT:=ι (show okW (gs.map Ma.ofN).length u by have:=HOK.out; rwa [List.take_of_length_le (by omega)] at this);have HT2:=ι (show okW gs.length u by have:=HT.out; rwa [List.length_map] at this);go_upto_region 7 with (fail);refine Rg.wl ?_;refine Rg.lr 20 (exec_bin (R:=.bool false) .lss _ _ _ rfl rfl rfl (b_lss _ Rg.dF)) ?_;go_frame;go_upto_region 12 with (fail);refine Rg.wl ?_;refine Rg.lm 41 (.slice wa u.length wc) ?_;go_frame;refine Rg.lr 42 (exec_fieldG0 _ rfl rfl) ?_;go_frame;refine Rg.lr 43 (Rg.exec_load (v:=.int .i64 ((D:Nat):Int)) _ _ rfl ⟨gb,0,none⟩ rfl (run_loadInt G0.out.c0)) ?_;go_frame;refine Rg.lk 44 (exec_fn1 42 _ _ rfl rfl (Bgcl4 _ _)) ?_;refine (fcOne_any D wr (by omega)).mono ?_;rintro e1 w2 ⟨ov,rfl,hov,hb⟩;refine ⟨_,rfl,?_⟩;go_frame;replace G0:=ι (G0.out.below hb);replace HU0:=ι (HU0.out.below hb);replace K:=ι (Rg.acc K.out hb);clear hb
     have NV:=ι (NpI.mk hov.1);refine Rg.lr 45 (exec_makeFunc 43 _ rfl rfl) ?_;go_frame;refine Rg.lk 46 (exec_fn3 41 _ _ _ _ rfl rfl rfl rfl (Bhcl4 _ _)) ?_;refine (foldE_any G0.out HGD.out hn1 hn2 HGL.out HU0.out.i hul NV.out.i (Cm.gd_one D) HT2.out).mono ?_;rintro e1 w3 ⟨rv,rfl,hrv,hb⟩;refine ⟨_,rfl,?_⟩;go_frame;replace G0:=ι (G0.out.below hb);replace HU0:=ι (HU0.out.below hb);replace NV:=ι (NV.out.below hb);replace K:=ι (Rg.acc K.out hb);clear hb;refine Rg.la 4 (rv) ?_;go_frame;refine Rg.la 5 (.int .i64 ((0:Nat):Int)) ?_;go_frame;go_wp2
     go_ret2
     exact ⟨_,_,0,rfl,.inr (.inr (.inr ⟨HZ.out,hul,HT.out,D,gs,rfl,rfl,rfl,rfl⟩)),hrv,K.out⟩
    case pos =>
     obtain ⟨b,o,e1,hb0,hc0⟩:=ints_get HU0.out.i hil;subst e1;obtain ⟨x,hx⟩:∃ x,Hid (u[i]'hil=x):=⟨_,ι rfl⟩;rw [hx.out] at hc0;have CX:=ι (CL.mk hc0 hb0);have HIL:=ι hil;have HXM:=ι (show x∈u from hx.out▸List.getElem_mem hil)
     have hq16:(gs.map Ma.ofN).length≤16:=by rw [List.length_map]; exact HGL.out
     have HBAD:=ι (fun (h:¬ (x≠0∧x≤((gs.map Ma.ofN).length:Int)∧-((gs.map Ma.ofN).length:Int)≤x)) (ho:okW (gs.map Ma.ofN).length u)=>h (ho x HXM.out));clear hb0 hc0
     by_cases hx0:x=0
     case pos =>
      skip
      go_upto_region 7 with (fail);refine Rg.wl ?_;refine Rg.lr 20 (exec_bin (R:=.bool true) .lss _ _ _ rfl rfl rfl (b_lss _ Rg.dT)) ?_;go_frame;go_upto_region 8 with (fail);refine Rg.wl ?_;refine Rg.lr 21 (exec_indexS slWord _ _ rfl b (o) (u.length) wc (i) rfl rfl HIL.out) ?_;go_frame;refine Rg.lr 22 (Rg.exec_load (v:=.int .i64 x) _ _ rfl ⟨b,o+i,none⟩ rfl (run_loadInt CX.out.cell)) ?_;go_frame;refine Rg.la 8 (.int .i64 x) ?_;go_frame;go_upto_region 9 with (fail);refine Rg.wl ?_;refine Rg.lm 23 (.int .i64 x) ?_;go_frame;refine Rg.lr 24 (exec_bin (R:=.bool true) .eql _ _ _ rfl rfl rfl (b_eql _ (decide_eq_true hx0))) ?_;go_frame;refine Rg.lm 25 (.bool true) ?_;go_frame;refine listW_pass (some 26) (by kernel_rfl) rfl ?_;go_frame;refine listW_pass (some 27) (by kernel_rfl) rfl ?_;go_frame;refine listW_pass (some 28) (by kernel_rfl) rfl ?_;go_frame;refine listW_pass (some 29) (by kernel_rfl) rfl ?_;go_frame
      refine listW_pass (some 30) (by kernel_rfl) rfl ?_;go_frame;refine Rg.lr 31 (exec_pickT _ _ _ rfl rfl rfl) ?_;go_frame;refine Rg.lm 32 (.bool true) ?_;go_frame;refine listW_pass (some 33) (by kernel_rfl) rfl ?_;go_frame;refine listW_pass (some 34) (by kernel_rfl) rfl ?_;go_frame;refine listW_pass (some 35) (by kernel_rfl) rfl ?_;go_frame;refine listW_pass (some 36) (by kernel_rfl) rfl ?_;go_frame;refine listW_pass (some 37) (by kernel_rfl) rfl ?_;go_frame;refine listW_pass (some 38) (by kernel_rfl) rfl ?_;go_frame;refine Rg.lr 39 (exec_pickT _ _ _ rfl rfl rfl) ?_;go_frame;go_upto_region 10 with (fail);refine Rg.wl ?_;refine Rg.la 4 (.slice none 0 0) ?_;go_frame;refine Rg.la 5 (.int .i64 ((2:Nat):Int)) ?_;go_frame;go_wp2
      go_ret2
      exact ⟨_,[],2,rfl,.inr (.inr (.inl ⟨HZ.out,hul,HBAD.out (by omega),rfl,rfl⟩)),ints_nil _,K.out⟩
     case neg =>
     by_cases hx1:((gs.map Ma.ofN).length:Int)<x
     case pos =>
      skip
      go_upto_region 7 with (fail);refine Rg.wl ?_;refine Rg.lr 20 (exec_bin (R:=.bool true) .lss _ _ _ rfl rfl rfl (b_lss _ Rg.dT)) ?_;go_frame;go_upto_region 8 with (fail);refine Rg.wl ?_;refine Rg.lr 21 (exec_indexS slWord _ _ rfl b (o) (u.length) wc (i) rfl rfl HIL.out) ?_;go_frame;refine Rg.lr 22 (Rg.exec_load (v:=.int .i64 x) _ _ rfl ⟨b,o+i,none⟩ rfl (run_loadInt CX.out.cell)) ?_;go_frame;refine Rg.la 8 (.int .i64 x) ?_;go_frame;go_upto_region 9 with (fail);refine Rg.wl ?_;refine Rg.lm 23 (.int .i64 x) ?_;go_frame;refine Rg.lr 24 (exec_bin (R:=.bool false) .eql _ _ _ rfl rfl rfl (b_eql _ (decide_eq_false hx0))) ?_;go_frame;refine Rg.lm 25 (.bool false) ?_;go_frame;refine Rg.lW 26 (Rg.xm (.int .i64 x) _ rfl rfl) ?_;go_frame;refine Rg.lW 27 (exec_fieldG _ rfl rfl) ?_;go_frame;refine Rg.lW 28 (Rg.exec_load (v:=.slice ga (gs.map Ma.ofN).length gc) _ _ rfl ⟨gb,1,none⟩ rfl (Rg.run_loadSl _ _ Tryz.underlying22 G0.out.c1)) ?_;go_frame
      refine Rg.lW 29 (exec_len _ _ _ rfl Tryz.underlying22 _ _ _ rfl) ?_;go_frame;refine Rg.lW 30 (exec_bin (R:=.bool true) .gtr _ _ _ rfl rfl rfl (b_gtr _ Rg.dT)) ?_;go_frame;refine Rg.lr 31 (exec_pickF _ _ _ rfl rfl rfl) ?_;go_frame;refine Rg.lm 32 (.bool true) ?_;go_frame;refine listW_pass (some 33) (by kernel_rfl) rfl ?_;go_frame;refine listW_pass (some 34) (by kernel_rfl) rfl ?_;go_frame;refine listW_pass (some 35) (by kernel_rfl) rfl ?_;go_frame;refine listW_pass (some 36) (by kernel_rfl) rfl ?_;go_frame;refine listW_pass (some 37) (by kernel_rfl) rfl ?_;go_frame;refine listW_pass (some 38) (by kernel_rfl) rfl ?_;go_frame;refine Rg.lr 39 (exec_pickT _ _ _ rfl rfl rfl) ?_;go_frame;go_upto_region 10 with (fail);refine Rg.wl ?_;refine Rg.la 4 (.slice none 0 0) ?_;go_frame;refine Rg.la 5 (.int .i64 ((2:Nat):Int)) ?_;go_frame;go_wp2
      go_ret2
      exact ⟨_,[],2,rfl,.inr (.inr (.inl ⟨HZ.out,hul,HBAD.out (by omega),rfl,rfl⟩)),ints_nil _,K.out⟩
     case neg =>
     by_cases hx2:x < -((gs.map Ma.ofN).length:Int)
     case pos =>
      skip
      go_upto_region 7 with (fail);refine Rg.wl ?_;refine Rg.lr 20 (exec_bin (R:=.bool true) .lss _ _ _ rfl rfl rfl (b_lss _ Rg.dT)) ?_;go_frame;go_upto_region 8 with (fail);refine Rg.wl ?_;refine Rg.lr 21 (exec_indexS slWord _ _ rfl b (o) (u.length) wc (i) rfl rfl HIL.out) ?_;go_frame;refine Rg.lr 22 (Rg.exec_load (v:=.int .i64 x) _ _ rfl ⟨b,o+i,none⟩ rfl (run_loadInt CX.out.cell)) ?_;go_frame;refine Rg.la 8 (.int .i64 x) ?_;go_frame;go_upto_region 9 with (fail);refine Rg.wl ?_;refine Rg.lm 23 (.int .i64 x) ?_;go_frame;refine Rg.lr 24 (exec_bin (R:=.bool false) .eql _ _ _ rfl rfl rfl (b_eql _ (decide_eq_false hx0))) ?_;go_frame;refine Rg.lm 25 (.bool false) ?_;go_frame;refine Rg.lW 26 (Rg.xm (.int .i64 x) _ rfl rfl) ?_;go_frame;refine Rg.lW 27 (exec_fieldG _ rfl rfl) ?_;go_frame;refine Rg.lW 28 (Rg.exec_load (v:=.slice ga (gs.map Ma.ofN).length gc) _ _ rfl ⟨gb,1,none⟩ rfl (Rg.run_loadSl _ _ Tryz.underlying22 G0.out.c1)) ?_;go_frame
      refine Rg.lW 29 (exec_len _ _ _ rfl Tryz.underlying22 _ _ _ rfl) ?_;go_frame;refine Rg.lW 30 (exec_bin (R:=.bool false) .gtr _ _ _ rfl rfl rfl (b_gtr _ Rg.dF)) ?_;go_frame;refine Rg.lr 31 (exec_pickF _ _ _ rfl rfl rfl) ?_;go_frame;refine Rg.lm 32 (.bool false) ?_;go_frame;refine Rg.lW 33 (Rg.xm (.int .i64 x) _ rfl rfl) ?_;go_frame;refine Rg.lW 34 (exec_fieldG _ rfl rfl) ?_;go_frame;refine Rg.lW 35 (Rg.exec_load (v:=.slice ga (gs.map Ma.ofN).length gc) _ _ rfl ⟨gb,1,none⟩ rfl (Rg.run_loadSl _ _ Tryz.underlying22 G0.out.c1)) ?_;go_frame;refine Rg.lW 36 (exec_len _ _ _ rfl Tryz.underlying22 _ _ _ rfl) ?_;go_frame;refine Rg.lW 37 (exec_neg _ rfl rfl rfl (by omega)) ?_;go_frame;refine Rg.lW 38 (exec_bin (R:=.bool true) .lss _ _ _ rfl rfl rfl (b_lss _ (decide_eq_true hx2))) ?_;go_frame;refine Rg.lr 39 (exec_pickF _ _ _ rfl rfl rfl) ?_;go_frame;go_upto_region 10 with (fail);refine Rg.wl ?_
      refine Rg.la 4 (.slice none 0 0) ?_;go_frame;refine Rg.la 5 (.int .i64 ((2:Nat):Int)) ?_;go_frame;go_wp2
      go_ret2
      exact ⟨_,[],2,rfl,.inr (.inr (.inl ⟨HZ.out,hul,HBAD.out (by omega),rfl,rfl⟩)),ints_nil _,K.out⟩
     case neg =>
      have HOK2:=ι (show okW (gs.map Ma.ofN).length (u.take (i+1)) from fun y hy=>by
       rw [List.take_succ_eq_append_getElem HIL.out] at hy
       rcases List.mem_append.1 hy with hy | hy
       ·exact HOK.out y hy
       ·rw [List.mem_singleton,hx.out] at hy
        subst hy
        exact ⟨hx0,by omega,by omega⟩)
      go_upto_region 7 with (fail);refine Rg.wl ?_;refine Rg.lr 20 (exec_bin (R:=.bool true) .lss _ _ _ rfl rfl rfl (b_lss _ Rg.dT)) ?_;go_frame;go_upto_region 8 with (fail);refine Rg.wl ?_;refine Rg.lr 21 (exec_indexS slWord _ _ rfl b (o) (u.length) wc (i) rfl rfl HIL.out) ?_;go_frame;refine Rg.lr 22 (Rg.exec_load (v:=.int .i64 x) _ _ rfl ⟨b,o+i,none⟩ rfl (run_loadInt CX.out.cell)) ?_;go_frame;refine Rg.la 8 (.int .i64 x) ?_;go_frame;go_upto_region 9 with (fail);refine Rg.wl ?_;refine Rg.lm 23 (.int .i64 x) ?_;go_frame;refine Rg.lr 24 (exec_bin (R:=.bool false) .eql _ _ _ rfl rfl rfl (b_eql _ (decide_eq_false hx0))) ?_;go_frame;refine Rg.lm 25 (.bool false) ?_;go_frame;refine Rg.lW 26 (Rg.xm (.int .i64 x) _ rfl rfl) ?_;go_frame;refine Rg.lW 27 (exec_fieldG _ rfl rfl) ?_;go_frame;refine Rg.lW 28 (Rg.exec_load (v:=.slice ga (gs.map Ma.ofN).length gc) _ _ rfl ⟨gb,1,none⟩ rfl (Rg.run_loadSl _ _ Tryz.underlying22 G0.out.c1)) ?_;go_frame
      refine Rg.lW 29 (exec_len _ _ _ rfl Tryz.underlying22 _ _ _ rfl) ?_;go_frame;refine Rg.lW 30 (exec_bin (R:=.bool false) .gtr _ _ _ rfl rfl rfl (b_gtr _ Rg.dF)) ?_;go_frame;refine Rg.lr 31 (exec_pickF _ _ _ rfl rfl rfl) ?_;go_frame;refine Rg.lm 32 (.bool false) ?_;go_frame;refine Rg.lW 33 (Rg.xm (.int .i64 x) _ rfl rfl) ?_;go_frame;refine Rg.lW 34 (exec_fieldG _ rfl rfl) ?_;go_frame;refine Rg.lW 35 (Rg.exec_load (v:=.slice ga (gs.map Ma.ofN).length gc) _ _ rfl ⟨gb,1,none⟩ rfl (Rg.run_loadSl _ _ Tryz.underlying22 G0.out.c1)) ?_;go_frame;refine Rg.lW 36 (exec_len _ _ _ rfl Tryz.underlying22 _ _ _ rfl) ?_;go_frame;refine Rg.lW 37 (exec_neg _ rfl rfl rfl (by omega)) ?_;go_frame;refine Rg.lW 38 (exec_bin (R:=.bool false) .lss _ _ _ rfl rfl rfl (b_lss _ (decide_eq_false hx2))) ?_;go_frame;refine Rg.lr 39 (exec_pickF _ _ _ rfl rfl rfl) ?_;go_frame;go_upto_region 11 with (fail);refine Rg.wl ?_
      refine Rg.lr 40 (exec_bin (R:=.int .i64 (((i+1):Nat):Int)) .add _ _ _ rfl rfl rfl (b_add _ (by omega) (by omega))) ?_;go_frame;refine Rg.lm 19 (.int .i64 (((i+1):Nat):Int)) ?_;go_frame;go_wp2
      go_roundw
      case rel=>exact ⟨i+1,by go_num,HIL.out,HOK2,by first | rfl | trivial⟩
      case measure=>simp [intOf]; have:=HIL.out; omega
end Go.Proofs.YtdnmmibchbceeaaGreat

namespace Go.Proofs
open Go.Shelf
def Tryz.laysSlF6_f52_ren:Go.Shelf.Ren:=⟨fun | 6=>52 | 15=>82 | 14=>81 | 28=>109 | 29=>110 | 20=>101 | 21=>102 | 22=>103 | 23=>104 | 24=>105 | 25=>106 | 26=>107 | 27=>108 | 46=>128 | 47=>129 | 48=>130 | 49=>131 | 50=>132 | 57=>155 | n=>n,fun | 22=>22 | 24=>30 | 25=>80 | 3=>3 | 39=>129 | 0=>0 | 53=>157 | 55=>159 | 4=>4 | 46=>151 | 45=>150 | 50=>118 | 5=>5 | 9=>9 | 66=>182 | 70=>186 | 76=>202 | 77=>203 | n=>n,fun | n=>n⟩
theorem Tryz.laysSlF6_f52:Go.Proofs.SlLaysF.n6 Tryz.prog Tryz.laysSlF6_f52_ren:={
 mixed:=by kernel_rfl
 f6:=⟨Tryz.f52.name,by decide,Tryz.func52.trans (congrArg some (by kernel_rfl))⟩
 f14:=⟨Tryz.f81.name,by decide,Tryz.func81.trans (congrArg some (by kernel_rfl))⟩
 f15:=Tryz.func82.trans (congrArg some (by kernel_rfl))
 f20:=⟨Tryz.f101.name,by decide,Tryz.func101.trans (congrArg some (by kernel_rfl))⟩
 f21:=⟨Tryz.f102.name,by decide,Tryz.func102.trans (congrArg some (by kernel_rfl))⟩
 f22:=⟨Tryz.f103.name,by decide,Tryz.func103.trans (congrArg some (by kernel_rfl))⟩
 f23:=⟨Tryz.f104.name,by decide,Tryz.func104.trans (congrArg some (by kernel_rfl))⟩
 f24:=⟨Tryz.f105.name,by decide,Tryz.func105.trans (congrArg some (by kernel_rfl))⟩
 f25:=⟨Tryz.f106.name,by decide,Tryz.func106.trans (congrArg some (by kernel_rfl))⟩
 f26:=⟨Tryz.f107.name,by decide,Tryz.func107.trans (congrArg some (by kernel_rfl))⟩
 f27:=⟨Tryz.f108.name,by decide,Tryz.func108.trans (congrArg some (by kernel_rfl))⟩
 f28:=Tryz.func109.trans (congrArg some (by kernel_rfl))
 f29:=Tryz.func110.trans (congrArg some (by kernel_rfl))
 f46:=⟨Tryz.f128.name,by decide,Tryz.func128.trans (congrArg some (by kernel_rfl))⟩
 f47:=Tryz.func129.trans (congrArg some (by kernel_rfl))
 f48:=Tryz.func130.trans (congrArg some (by kernel_rfl))
 f49:=⟨Tryz.f131.name,by decide,Tryz.func131.trans (congrArg some (by kernel_rfl))⟩
 f50:=⟨Tryz.f132.name,by decide,Tryz.func132.trans (congrArg some (by kernel_rfl))⟩
 f57:=⟨Tryz.f155.name,by decide,Tryz.func155.trans (congrArg some (by kernel_rfl))⟩
 t0:=Tryz.underlying0
 a0:=Tryz.isAgg0
 z0:=Tryz.sizeOf0
 v0:=Tryz.zeroValue0
 t3:=Tryz.underlying3
 a3:=Tryz.isAgg3
 z3:=Tryz.sizeOf3
 v3:=Tryz.zeroValue3
 t4:=Tryz.underlying4
 a4:=Tryz.isAgg4
 z4:=Tryz.sizeOf4
 v4:=Tryz.zeroValue4
 t5:=Tryz.underlying5
 a5:=Tryz.isAgg5
 z5:=Tryz.sizeOf5
 v5:=Tryz.zeroValue5
 t9:=Tryz.underlying9
 a9:=Tryz.isAgg9
 z9:=Tryz.sizeOf9
 v9:=Tryz.zeroValue9
 t22:=Tryz.underlying22
 a22:=Tryz.isAgg22
 z22:=Tryz.sizeOf22
 v22:=Tryz.zeroValue22
 a24:=Tryz.isAgg30
 z24:=Tryz.sizeOf30
 t25:=Tryz.underlying80
 a25:=Tryz.isAgg80
 z25:=Tryz.sizeOf80
 v25:=Tryz.zeroValue80
 t39:=Tryz.underlying129
 a39:=Tryz.isAgg129
 z39:=Tryz.sizeOf129
 v39:=Tryz.zeroValue129
 t45:=Tryz.underlying150
 a45:=Tryz.isAgg150
 z45:=Tryz.sizeOf150
 v45:=Tryz.zeroValue150
 t46:=Tryz.underlying151
 a46:=Tryz.isAgg151
 z46:=Tryz.sizeOf151
 v46:=Tryz.zeroValue151
 t50:=Tryz.underlying118
 a50:=Tryz.isAgg118
 z50:=Tryz.sizeOf118
 v50:=Tryz.zeroValue118
 t53:=Tryz.underlying157
 a53:=Tryz.isAgg157
 z53:=Tryz.sizeOf157
 v53:=Tryz.zeroValue157
 t55:=Tryz.underlying159
 a55:=Tryz.isAgg159
 z55:=Tryz.sizeOf159
 v55:=Tryz.zeroValue159
 t66:=Tryz.underlying182
 a66:=Tryz.isAgg182
 z66:=Tryz.sizeOf182
 v66:=Tryz.zeroValue182
 t70:=Tryz.underlying186
 a70:=Tryz.isAgg186
 z70:=Tryz.sizeOf186
 v70:=Tryz.zeroValue186
 t76:=Tryz.underlying202
 a76:=Tryz.isAgg202
 z76:=Tryz.sizeOf202
 v76:=Tryz.zeroValue202
 t77:=Tryz.underlying203
 a77:=Tryz.isAgg203
 z77:=Tryz.sizeOf203
 v77:=Tryz.zeroValue203 }
open Go.RowKit Go.Lib Go.Sort in
theorem Tryz.slices_SortFunc52 {α:Type} [Inhabited α] (enc:α→Value) (h1:OneCell enc) (cf:α→α→Int) (hO:SWO (ltOf cf)) (g:Nat) (cb:Array Value) (blk off cap:Nat) (d:Array α) (w:World) (eg:∀ args w,(callFunc g args).run Tryz.prog w=.ok (.enter g args) w) (hcmp:CmpLays1 Tryz.prog g cb enc cf blk off d.size w) (hH:Holds enc w blk off d) (hblk:blk<w.heap.size) (hsz:d.size<4611686018427387904) :
  Calls Tryz.prog 52 #[.slice (some ⟨blk,off,none⟩) d.size cap,.func (.func g) #[] cb] w fun e w' =>
   e=.returned (.tuple #[])∧∃ d' n os,PermIn 0 d.size d d'∧SortedIn (ltOf cf) 0 d.size d'∧w'=sortWorld enc w blk off n d' os:=Any.slices_SortFunc Tryz.laysSlF6_f52 enc h1 cf hO g cb blk off cap d w eg hcmp hH hblk hsz
end Go.Proofs

namespace Go.Proofs.YtdnmmibchbceeaaGreat
open Go.RowKit
open Go.Proofs
open Go.Proofs.Ob
open Go.Sort
open Go.Proofs.Cm (Gd Gr IsChain ap)
attribute [local irreducible] Go.Calls Go.wpList
theorem CompareP_any (v1 v2:Value) (l1 l2:List Int) (w:World) (h1:Rg.Ints w v1 l1) (h2:Rg.Ints w v2 l2) :
  Calls Tryz.prog 83 #[v1,v2] w fun e w'=>e=.returned (.int .i64 (cmpL l1 l2))∧w'=w:=by
 obtain ⟨a1,c1,rfl,n1,m1,_,k1⟩:=h1.shape;obtain ⟨a2,c2,rfl,n2,m2,_,k2⟩:=h2.shape;clear h1 h2;have K1:=ι k1;have K2:=ι k2;clear k1 k2
 go_enter Tryz.func83,Tryz.ntmps83
 go_wp2
 go_loopw [11] (fun v wr=>∃ i:Nat,v=.int .i64 i∧i≤l1.length∧i≤l2.length∧Hid (w=wr)∧Hid (cmpL (l1.drop i) (l2.drop i)=cmpL l1 l2)) (fun v _=>l1.length - (intOf v).toNat)
 case atStart=>exact ⟨0,rfl,by omega,by omega,rfl,rfl⟩
 case round =>
  obtain ⟨i,rfl,hi,hi2,hw,hs⟩:=hrel;have hw2:=hw.out;subst hw2;clear hw
  by_cases hlt:i<l1.length
  ·by_cases hlt2:i<l2.length
   ·obtain ⟨b1,o1,rfl,hb1,d1⟩:=K1.out (by omega)
    obtain ⟨b2,o2,rfl,hb2,d2⟩:=K2.out (by omega);have x1:=d1 i hlt;have x2:=d2 i hlt2;have hd:=cmpL_drop hlt hlt2;generalize l1[i]=x at *;generalize l2[i]=y at *;have Hd:=ι hd;have HC:=ι (cmpCmp_any x y w);clear d1 d2 hd;obtain ⟨c,hc⟩:∃ c,Hid (cmpI x y=c):=⟨_,ι rfl⟩;rw [hc.out] at HC
    have hge:¬ (l2.length:Int)≤(i:Int):=by omega
    by_cases he:c=0
    ·subst he
     go_wp2_with (go_at_call 111; refine HC.out.mono ?_; rintro e w' ⟨rfl,rfl⟩)
     go_roundw
     case rel=>exact ⟨i+1,by go_num,by omega,by omega,by first | exact ι rfl | exact ι trivial,ι (by have:=hs.out; rw [Hd.out,if_pos hc.out] at this; exact this)⟩
     case measure=>simp [intOf]; omega
    ·have HR:=ι (show c=cmpL l1 l2 by rw [← hs.out,Hd.out,if_neg (by rw [hc.out]; exact he),hc.out])
     go_wp2_with (go_at_call 111; refine HC.out.mono ?_; rintro e w' ⟨rfl,rfl⟩)
     go_ret;exact ⟨by rw [← HR.out]; rfl,rfl⟩
   ·have hge:(l2.length:Int)≤(i:Int):=by omega
    obtain ⟨b1,o1,rfl,hb1,d1⟩:=K1.out (by omega);have x1:=d1 i hlt;generalize l1[i]=x at *;clear d1;go_wp2;go_ret;exact ⟨by rw [← hs.out,cmpL_one hlt (by omega)]; rfl,rfl⟩
  ·have he:=cmpL_end (a:=l1) (b:=l2) (k:=i) (by omega) hi2 hi
   have HE:=ι (he.symm.trans hs.out);clear he
   by_cases hl:l1.length<l2.length
   ·have hlN:(l1.length:Int)<(l2.length:Int):=by omega
    go_wp2;go_ret;exact ⟨by rw [← HE.out,if_pos (by omega)]; rfl,rfl⟩
   ·have hlN:¬ (l1.length:Int)<(l2.length:Int):=by omega
    go_wp2;go_ret;exact ⟨by rw [← HE.out,if_neg (by omega)]; rfl,rfl⟩
theorem clCmpP (args:Array Value) (w:World):(callFunc 83 args).run Tryz.prog w=.ok (.enter 83 args) w:=by kernel_rfl
theorem pCmp_any (v1 v2:Value) (a b:List Int) (w:World) (h1:Rg.Ints w v1 a) (h2:Rg.Ints w v2 b) :
  Calls Tryz.prog 53 #[v1,v2] w fun e w'=>e=.returned (.int .i64 (cmpL a b))∧w'=w:=by
 have H1:=ι h1;have H2:=ι h2;clear h1 h2
 go_enter Tryz.func53,Tryz.ntmps53
 go_upto_region 0 with (fail);refine Rg.wl ?_;refine Rg.la 4 (.int .i64 0) ?_;go_frame;go_upto_region 1 with (fail);refine Rg.wl ?_;refine Rg.lm 5 (v1) ?_;go_frame;refine Rg.lm 6 (v2) ?_;go_frame;refine Rg.lk 7 (exec_fn 83 _ _ _ rfl rfl rfl (clCmpP _ _)) ?_;refine (CompareP_any _ _ a b w H1.out H2.out).mono ?_;rintro e1 w1 ⟨rfl,rfl⟩;refine ⟨_,rfl,?_⟩;go_frame;refine Rg.la 4 (.int .i64 (cmpL a b)) ?_;go_frame;go_wp2;go_ret;exact ⟨rfl,rfl⟩
def ElP (F:Nat→Prop) (w:World):={ p:Value × List Int // Rg.FI F w p.1 p.2 }
theorem fi_nilP (F:Nat→Prop) (w:World):Rg.FI F w (.slice none 0 0) []:=⟨none,0,rfl,Nat.le_refl _,Nat.zero_le _,Nat.zero_le _,fun h=>absurd h (Nat.lt_irrefl 0)⟩
instance (F:Nat→Prop) (w:World):Inhabited (ElP F w):=⟨⟨(.slice none 0 0,[]),fi_nilP F w⟩⟩
def elVP {F:Nat→Prop} {w:World} (p:ElP F w):Value:=p.1.1
def elCP {F:Nat→Prop} {w:World} (p q:ElP F w):Int:=cmpL p.1.2 q.1.2
theorem elC_ltP {F:Nat→Prop} {w:World} (p q:ElP F w):ltOf elCP p q=lessL p.1.2 q.1.2:=cmpL_lt _ _
theorem lessL_nP {a b c:List Int} (h:lessL a b=false) (h2:lessL b c=false):lessL a c=false:=by
 by_cases e:a=b
 ·subst e; exact h2
 ·by_cases e2:b=c
  ·subst e2; exact h
  ·have h3:=lessL_trans (lessL_total h2 e2) (lessL_total h e)
   cases h4:lessL a c
   ·rfl
   ·have:=lessL_trans h3 h4
    rw [lessL_irr] at this; cases this
theorem el_swoP (F:Nat→Prop) (w:World):SWO (ltOf (elCP (F:=F) (w:=w))) where
 irrefl x:=by rw [elC_ltP]; exact lessL_irr _
 trans x y z h1 h2:=by rw [elC_ltP] at *; exact lessL_trans h1 h2
 ntrans x y z h1 h2:=by rw [elC_ltP] at *; exact lessL_nP h1 h2
theorem sortWorld_kpP {α:Type} [Inhabited α] {enc:α→Value} {w:World} {blk m:Nat} {dk:Array α} {os:Array Obj}:Rg.Kp (fun z=>z=blk) w (sortWorld enc w blk 0 m dk os):=by
 refine ⟨rfl,rfl,rfl,by simp [sortWorld,grow,putRow,mapBlock,Sort.ahead],fun k hk hn=>?_⟩;unfold sortWorld;rw [heap_grow_old _ _ (by simpa [putRow,mapBlock,Sort.ahead] using hk)];have:blk≠k:=fun e=>hn e.symm;simp [putRow,mapBlock,Sort.ahead,Array.getElem?_modify,this]
theorem clCmpS (args:Array Value) (w:World):(callFunc 53 args).run Tryz.prog w=.ok (.enter 53 args) w:=by kernel_rfl
theorem sortPP {F:Nat→Prop} {w:World} {blk cap:Nat} {us:List Value} {ll:List (List Int)} (hus:Rg.FElts F w us ll) (hF:¬ F blk) (hc:∀ i (h:i<us.length),w.cell? ⟨blk,i,none⟩=some us[i]∧w.frozen? ⟨blk,i,none⟩=false) (hlt:blk<w.heap.size) (hn:ll.length≤1000000) (hcap:ll.length≤cap) (hcm:cap≤maxLen) :
  Calls Tryz.prog 52 #[.slice (some ⟨blk,0,none⟩) ll.length cap,.func (.func 53) #[] #[]] w fun e w'=>e=.returned (.tuple #[])∧∃ ll',ll'.Perm ll∧ll'.Pairwise (fun a b=>lessL b a=false)∧Rg.Rows w' (.slice (some ⟨blk,0,none⟩) ll.length cap) ll'∧Rg.Kp (fun z=>z=blk) w w':=by
 obtain ⟨d,hd,hde⟩:∃ d:Array (ElP F w),d.size=ll.length∧∀ i (h:i<d.size) (h2:i<us.length) (h3:i<ll.length),d[i].1=(us[i],ll[i]) :=
  by
   obtain ⟨hl,he⟩:=hus;exact ⟨Array.ofFn (n:=ll.length) fun i=>⟨(us[i.1]'(by rw [hl]; exact i.2),ll[i.1]),he i.1 _ _⟩,Array.size_ofFn,fun i h h2 h3=>congrArg Subtype.val (Array.getElem_ofFn h)⟩
 have hH:Holds elVP w blk 0 d:=fun j hj=>by
  have hj2:j<us.length:=by rw [hus.1,← hd]; exact hj
  rw [Nat.zero_add,getElem!_pos d j hj]
  have e:elVP d[j]=us[j]:=by unfold elVP; rw [hde j hj hj2 (by omega)]
  rw [e];exact hc j hj2
 have hcmp:CmpLays1 Tryz.prog 53 #[] elVP elCP blk 0 d.size w:=fun m os dk _ x y=>by
  have hk:=sortWorld_kpP (enc:=elVP) (w:=w) (blk:=blk) (m:=m) (dk:=dk) (os:=os);have hx:=(Rg.FI.kp x.2 hk (fun z hz e=>hF (e▸hz))).ints;have hy:=(Rg.FI.kp y.2 hk (fun z hz e=>hF (e▸hz))).ints;refine (pCmp_any _ _ x.1.2 y.1.2 _ hx hy).mono ?_;rintro e w' ⟨h1,h2⟩;exact ⟨h1,0,#[],by rw [h2,grow_empty]; rfl⟩
 have hs:=Tryz.slices_SortFunc52 elVP (fun x=>by obtain ⟨a,c,h,_⟩:=x.2; show x.1.1.oneCell'=true; rw [h]; rfl) elCP (el_swoP F w) 53 #[] blk 0 cap d w clCmpS hcmp hH hlt (by rw [hd]; omega);rw [hd] at hs;refine hs.mono ?_;rintro e w' ⟨rfl,d',m,os,hp,hso,rfl⟩;have hk:=sortWorld_kpP (enc:=elVP) (w:=w) (blk:=blk) (m:=m) (dk:=d') (os:=os)
 have hd':d'.size=ll.length:=by rw [hp.1,hd]
 have hx1:d'.extract 0 ll.length=d':=by rw [← hd']; simp
 have hx2:d.extract 0 ll.length=d:=by rw [← hd]; simp
 have hh:=SW.holds (W:=sortWorld elVP w blk 0 m d' os) ⟨m,os,rfl⟩ hlt hH (by rw [hd',hd]);refine ⟨rfl,d'.toList.map (·.1.2),?_,?_,?_,hk⟩
 ·have h1:=hp.2.2
  rw [hx1,hx2] at h1;have h2:=h1.map (fun p:ElP F w=>p.1.2)
  have e:d.toList.map (fun p:ElP F w=>p.1.2)=ll:=by
   apply List.ext_getElem
   ·simp [hd]
   ·intro i h1 h2
    have h3:i<d.size:=by simpa using h1
    rw [List.getElem_map,Array.getElem_toList,hde i h3 (by rw [hus.1]; exact h2) h2]
  rwa [e] at h2
 ·rw [List.pairwise_iff_getElem]
  intro i j hi hj hij;simp only [List.length_map,Array.length_toList] at hi hj;have:=hso i j (Nat.zero_le _) hij (by rw [← hd']; exact hj);rw [elC_ltP,getElem!_pos d' j hj,getElem!_pos d' i hi] at this
  simpa using this
 ·refine ⟨d'.toList.map (·.1.1),⟨some ⟨blk,0,none⟩,cap,by simp [hd'],by simp [hd']; exact hcap,hcm,by simp [hd',Rg.big]; omega,fun _=>⟨blk,0,rfl,Nat.lt_of_lt_of_le hlt hk.size,fun i hi=>?_⟩⟩,by simp,fun i h1 h2=>?_⟩
  ·have hi2:i<d'.size:=by simpa using hi
   have:=(hh i hi2).1;rw [this,getElem!_pos d' i hi2];simp [elVP]
  ·have hi2:i<d'.size:=by simpa using h1
   have:=(Rg.FI.kp (d'[i]).2 hk (fun z hz e=>hF (e▸hz))).ints;simp only [List.getElem_map,Array.getElem_toList];exact this
def wdOf (st:BSt) (x:List Nat):List Int:=st.2.getD (st.1.idxOf x) []
structure WqM (B:Nat) (W:World) (mb:Nat) (st:BSt) (vs:List Value):Prop where
 map:Sm.SMap W mb ((st.1.map keyS).zip vs)
 els:Rg.FElts (fun k=>k<B) W vs st.2
theorem WqM.below {B:Nat} {W W':World} {mb:Nat} {st:BSt} {vs:List Value} (h:WqM B W mb st vs) (hb:Below W.heap.size W W'):WqM B W' mb st vs :=
 ⟨h.map.below hb,h.els.kp (M:=fun _=>False) (Rg.Kp.of_below hb) (fun _ _=>id)⟩
theorem WqM.get {B:Nat} {W:World} {mb:Nat} {N:Nat} {st:BSt} {vs:List Value} (h:WqM B W mb st vs) (hb:BI N st) (hN:N≤64) {x:List Nat} (hx:x∈st.1):∃ v,Sm.look ((st.1.map keyS).zip vs) (keyS x)=some v∧Rg.FI (fun k=>k<B) W v (wdOf st x):=by
 have hi:st.1.idxOf x<st.1.length:=List.idxOf_lt_length_of_mem hx
 have hi2:st.1.idxOf x<st.2.length:=by rw [hb.ln]; exact hi
 have hi3:st.1.idxOf x<vs.length:=by rw [h.els.1]; exact hi2
 refine ⟨vs[st.1.idxOf x],look_at hb.nd (fun y hy=>gd_b (hb.gd y hy) hN) ?_ (List.getElem?_eq_getElem hi3),?_⟩
 ·rw [List.getElem?_eq_getElem hi,List.getElem_idxOf]
 ·have:=h.els.2 _ hi3 hi2
  unfold wdOf;rw [List.getD_eq_getElem?_getD,List.getElem?_eq_getElem hi2];exact this
theorem infoWordB:(Tryz.prog.info? 26).map (fun i=>(i.zero,i.size,i.bytes))=some (some (.slice none 0 0),1,24):=by kernel_rfl
theorem slWordsB:Rg.SlT Tryz.prog 39 26 (.slice none 0 0) 24:=⟨Tryz.underlying39,infoWordB,rfl,by decide⟩
structure RowWd (B:Nat) (W:World) (v:Value) (ll:List (List Int)):Prop where
 own:∃ us,W.ownsRow B 26 1 v ll.length us∧Rg.FElts (fun k=>k<B) W us ll
theorem RowWd.below {B:Nat} {W W':World} {v:Value} {ll:List (List Int)} (h:RowWd B W v ll) (hb:Below W.heap.size W W'):RowWd B W' v ll:=by
 obtain ⟨us,h1,h2⟩:=h.own;exact ⟨us,Rg.row_below h1 hb,h2.kp (M:=fun _=>False) (Rg.Kp.of_below hb) (fun _ _=>id)⟩
theorem RowWd.nil (B:Nat) (W:World):RowWd B W (.slice none 0 0) []:=⟨[],World.ownsRow_nil _ _ _ _,Rg.FElts.nil _ _⟩
theorem RowWd.shape {B:Nat} {W:World} {v:Value} {ll:List (List Int)} (h:RowWd B W v ll):∃ a c,v=.slice a ll.length c:=by
 obtain ⟨us,h1,h2⟩:=h.own;exact Rg.row_shape h1
theorem RowWd.rows {B:Nat} {W:World} {v:Value} {ll:List (List Int)} (h:RowWd B W v ll) (hl:ll.length≤1000000000):Rg.Rows W v ll:=by
 obtain ⟨us,h1,h2⟩:=h.own;exact Rg.Rows.of_row h1 hl h2.1 (fun i a b=>(h2.2 i a b).ints)
theorem RowWd.push {B:Nat} {W:World} {v:Value} {ll:List (List Int)} (h:RowWd B W v ll) (hB:B≤W.heap.size) {u:Value} {x:List Int} (hu:Rg.FI (fun k=>k<B) W u x) (hs:∃ a m c,u=.slice a m c) (hn:ll.length<1000000) (ty:TypeId) :
  ∃ a c X,(Builtin.append_ #[39,39] ty #[v,.slice (some ⟨W.heap.size,0,none⟩) 1 1]).run Tryz.prog (W.alloc (.cells #[u] 26))=.ok (.slice a (ll.length+1) c) X∧RowWd B X (.slice a (ll.length+1) c) (ll++[x])∧(∀ (B':Nat) (W0:World),B'≤B→Below B' W0 W→Below B' W0 X):=by
 obtain ⟨us,h1,h2⟩:=h.own;obtain ⟨a0,m0,c0,rfl⟩:=hs;have hb:Below W.heap.size W (W.alloc (.cells #[.slice a0 m0 c0] 26)):=(Below.refl _ _).alloc (Nat.le_refl _) _;obtain ⟨v',X,r1,r2,r3,r4,a,c,rfl⟩:=app_run (P:=Tryz.prog) slWordsB ty (Rg.row_below h1 hb) (Nat.le_trans hB hb.size) W.heap.size 1 (u:=.slice a0 m0 c0) (by rw [Rg.cellNew]; rfl) rfl hn;have hk:Rg.Kp (fun k=>v.ownBlock=some k) W X:=Rg.Kp.trans (M:=fun k=>v.ownBlock=some k) ((Rg.Kp.of_below hb).weak fun _=>False.elim) (Rg.Kp.of_grown r3 fun _ e=>e) (fun _ _ e=>e)
 have hg:∀ k,k<B→¬ v.ownBlock=some k:=fun k g e=>by have:=(h1.lt k e).1; omega
 refine ⟨a,c,X,r1,⟨us++[.slice a0 m0 c0],by rw [List.length_append]; exact r2,FElts.snoc (h2.kp hk hg) (Rg.FI.kp hu hk hg)⟩,fun B' W0 hB' hb0=>?_⟩;exact (hb0.alloc (Nat.le_trans hB' hB) _).grown r3 (Nat.le_trans (Nat.le_trans hB' hB) hb.size) (fun j hj=>Nat.le_trans hB' (h1.lt j hj).1)
theorem run_loadMW {w:World} {ad:Addr} {v:Value} (h:w.cell? ad=some v):(loadVar 76 ad).run Tryz.prog w=.ok v w:=by
 simp [loadVar,isAgg,run_underlying Tryz.underlying76,load];simp [Sem.run,h]
theorem clWd1 (args:Array Value) (w:World):(callFunc 55 args).run Tryz.prog w=.ok (.enter 55 args) w:=by kernel_rfl
def Wd1P (B:Nat) (ll:List (List Int)) (u:List Int) (w:World) (ed:Ending) (w':World):Prop:=∃ v,ed=.returned v∧RowWd B w' v (ll++[u])∧∀ (B':Nat) (W0:World),B'≤B→Below B' W0 w→Below B' W0 w'
theorem run_build1W (X:World) (u:Value) (hs:∃ a m c,u=.slice a m c):(Instr.buildSlice 39 1 #[(0,u)]).run Tryz.prog X=.ok (.slice (some ⟨X.heap.size,0,none⟩) 1 1) (X.alloc (.cells #[u] 26)):=by
 obtain ⟨a,m,c,rfl⟩:=hs;obtain ⟨i0,hi,hz0,hz1,hz2⟩:=info_parts infoWordB;refine run_buildSlice X 39 26 1 _ _ i0 _ Tryz.underlying39 hi hz0 (by rw [hz1]; decide) (by rw [hz1]; decide) ?_;generalize (fun x=>((Value.slice none 0 0).cells)[x % (Value.slice none 0 0).cells.size]!)=f;rw [hz1];have h1:Array.range (1*1)=#[0]:=rfl;simp [Instr.fill,Value.cells,h1]
theorem words1_any {B N:Nat} {mb bx:Nat} {st:BSt} {vs:List Value} {v xv:Value} {ll:List (List Int)} {x:List Nat} {w:World} (h:RowWd B w v ll) (hB:B≤w.heap.size) (hq:WqM B w mb st vs) (hbi:BI N st) (hN1:1≤N) (hN:N≤64) (hc:CL w bx 0 (.map (some mb))) (hx:Rg.NP w xv x) (hm:x∈st.1) (hl:ll.length<1000000) :
  Calls Tryz.prog 55 #[v,xv,.pointer (some ⟨bx,0,none⟩)] w (Wd1P B ll (wdOf st x) w):=by
 obtain ⟨va,vc,rfl⟩:=h.shape;have RW:=ι h;have HB:=ι hB;have HQ:=ι hq;have HBI:=ι hbi;have CB:=ι hc;have NX:=ι (NpI.mk hx);have GX:=ι (hbi.gd x hm);obtain ⟨wv,hlk,hfi⟩:=hq.get hbi hN hm;have HLK:=ι hlk;have HFI:=ι hfi;obtain ⟨wa,wc,hws,-⟩:=hfi.ints.shape;subst hws;have HL:=ι hl;clear h hB hq hbi hc hx hlk hfi hl hm
 go_enter Tryz.func55,Tryz.ntmps55
 go_upto_region 0 with (fail);refine Rg.wl ?_;refine Rg.la 5 (.slice none 0 0) ?_;go_frame;have hV1:Below w.heap.size w w.drew:=(Below.refl _ _).drew;have K:=ι hV1;replace RW:=ι (RW.out.below hV1);replace HQ:=ι (HQ.out.below hV1);replace CB:=ι (CB.out.below hV1);replace NX:=ι (NX.out.below hV1);replace HFI:=ι (Rg.FI.kp HFI.out (M:=fun _=>False) (Rg.Kp.of_below hV1) (fun _ _=>id));replace HB:=ι (Nat.le_trans HB.out hV1.size);have KD:=ι (fun (B':Nat) (W0:World) (hb:Below B' W0 w)=>hb.drew);clear hV1;go_upto_region 1 with (fail);have hV0:Below w.heap.size w w.drew:=(Below.refl _ _).drew;generalize Fup (fun _:Nat=>True) w w.drew=F1 at *;clear hV0;refine Rg.Any.begin (S:=Rg.Both 4 (fun W=>Below w.drew.heap.size w.drew W) (fun _=>True)) mix ?_;generalize w.drew=w1 at *;have hS:∀ (l:Array Bool) W,Below w1.heap.size w1 W→Rg.Both 4 (fun W=>Below w1.heap.size w1 W) (fun _=>True) l W:=fun l W h=>⟨.inr h,trivial⟩
 have hS2:∀ (l:Array Bool) W,l.getD 4 false=true→Rg.Both 4 (fun W=>Below w1.heap.size w1 W) (fun _=>True) l W:=fun l W h=>⟨.inl h,trivial⟩;have hI:Below w1.heap.size w1 w1:=Below.refl _ _;refine Rg.tm 0 4 (.slice va ll.length vc) 6 (hS _ _ hI) ?_;go_frame;refine Rg.Any.takeT (i:=1) (t:=4) (v:=(.map (some mb))) (some 7) rfl rfl (by kernel_rfl) (by kernel_rfl) (by kernel_rfl) (fun _ _ _ h=>h) rfl (by kernel_rfl) rfl (Rg.yields_cell _ _ rfl rfl ⟨bx,0,none⟩ rfl (fun W hW=>run_loadMW ((Below.cell (p:=⟨bx,0,none⟩) hW CB.out.lt).trans CB.out.cell))) (hS _ _ hI) ?_;go_frame;refine Rg.tm 2 4 (xv) 8 (hS _ _ hI) ?_;go_frame;refine Rg.Any.one (i:=3) (by kernel_rfl) (Rg.Any.ask (some 9) rfl rfl rfl _ _ (exec_fn1 56 _ _ rfl rfl (Bgcl5 _ _)) ?_);refine (key_any NX.out.i (by rw [GX.out.2]; exact hN1) (by rw [GX.out.2]; exact hN) (gd_b GX.out hN)).mono ?_;rintro e1 w2 ⟨rfl,hb⟩
 have hI2_u:=Rg.acc hI hb;clear hI;generalize Fup F1 w1 w2=F2 at *;clear hb;refine ⟨_,rfl,(hS _ _ hI2_u),?_⟩;go_frame;have hlk:=Sm.lookup_no stWords (HQ.out.map.below hI2_u) (keyS x);rw [HLK.out,Option.getD_some] at hlk;refine Rg.Any.one (i:=4) (by kernel_rfl) (Rg.Any.run (some 10) rfl rfl rfl (Rg.exec_lookup _ _ _ _ rfl _ _ rfl rfl hlk) (hS2 _ _ rfl) ?_);go_frame;have hHB:B≤w2.heap.size:=Nat.le_trans HB.out hI2_u.size;obtain ⟨a9,c9,X9,r1,r2,r3⟩:=(RW.out.below hI2_u).push hHB (Rg.FI.kp HFI.out (M:=fun _=>False) (Rg.Kp.of_below hI2_u) (fun _ _=>id)) ⟨_,_,_,rfl⟩ HL.out 39;have hKK:=hI2_u;refine Rg.Any.one (i:=5) (by kernel_rfl) (Rg.Any.run (some 11) rfl rfl rfl (Rg.exec_buildSlice _ _ _ rfl (.slice wa (wdOf st x).length wc) rfl (run_build1W w2 _ ⟨_,_,_,rfl⟩)) (hS2 _ _ rfl) ?_);go_frame;refine Rg.Any.one (i:=6) (by kernel_rfl) (Rg.Any.run (some 12) rfl rfl rfl (Rg.exec_append _ _ _ rfl rfl rfl r1) (hS2 _ _ rfl) ?_)
 go_frame;refine Rg.Any.one (i:=7) (by kernel_rfl) (Rg.Any.run (some 5) rfl rfl rfl (Rg.exec_assign _ rfl rfl) (hS2 _ _ rfl) ?_);go_frame;refine Rg.Any.done (by kernel_rfl) ?_ _;clear hS2;clear hS hI2_u;have R2:=ι r2;have R3:=ι (fun (B':Nat) (W0:World) (h1:B'≤B) (h2:Below B' W0 w)=>r3 B' W0 h1 ((KD.out B' W0 h2).trans (hKK.mono (Nat.le_trans h1 HB.out))));clear r1 r2 r3 hKK;go_wp2;go_ret;exact ⟨_,rfl,R2.out,R3.out⟩

theorem Bmcl0 (args:Array Value) (w:World):(callFunc 51 args).run Tryz.prog w=.ok (.enter 51 args) w:=by kernel_rfl
theorem Bmcl1 (args:Array Value) (w:World):(callFunc 54 args).run Tryz.prog w=.ok (.enter 54 args) w:=by kernel_rfl
theorem BfM.opened {B:Nat} {W:World} {fv:Value} {mb:Nat} {Fd Ks:List (List Nat)} {vs:List Value} {Wd:List (List Int)} (h:BfM B W fv mb Fd Ks vs Wd) (hn:1≤Fd.length) :
  ∃ g cap us,fv=.slice (some ⟨g,0,none⟩) Fd.length cap∧Rg.FElts (GF W mb fv) W us (Fd.map Ma.ofN)∧g<W.heap.size∧Fd.length≤cap∧cap≤maxLen∧∀ i (_:i<us.length),W.cell? ⟨g,i,none⟩=some us[i]∧W.frozen? ⟨g,i,none⟩=false:=by
 obtain ⟨us,⟨h1,h2⟩,h3⟩:=h.row
 rcases h2 with ⟨_,e⟩ | ⟨g,cap,cur,e,hg,hc,h5,h6,h7,h8⟩
 ·omega
 ·refine ⟨g,cap,us,e,h3,(Array.getElem?_eq_some_iff.1 hc).1,h5,h6,fun i hi=>⟨?_,?_⟩⟩
  ·unfold World.cell?
   simp only [hc]
   have h9:cur.toList[i]?=us[i]?:=by
    rw [← h8,List.getElem?_take_of_lt (by have:=h3.1; rw [List.length_map] at this; omega)]
   rw [← Array.getElem?_toList,h9,List.getElem?_eq_getElem hi]; rfl
  ·unfold World.frozen?
   simp [hc]
theorem BfM.lo {B:Nat} {W:World} {fv:Value} {mb:Nat} {Fd Ks:List (List Nat)} {vs:List Value} {Wd:List (List Int)} (h:BfM B W fv mb Fd Ks vs Wd):∀ k,fv.ownBlock=some k→B≤k:=fun k e=>by
 obtain ⟨us,h1,h2⟩:=h.row;exact (h1.lt k e).1
def SrV (d:Int) (ll:List (List Int)) (w w':World) (fv:Value) (mo:Option Nat) (c:Int):Prop :=
 (Ma.gchk d ll≠0∧c=Ma.gchk d ll∧fv=.slice none 0 0) ∨
  (Ma.gchk d ll=0∧∃ (N:Nat) (gs:List (List Nat)) (O:List (List Nat)) (R:List (List (List Nat))),d=((N:Nat):Int)∧ll=gs.map Ma.ofN∧1≤N∧gs.length≤16∧(∀ s∈gs,Gd N s)∧IsChain N (Cm.Gr N (·∈gs)) O R ∧
   ((5040<szD O N N∧c=5∧fv=.slice none 0 0) ∨
   (szD O N N≤5040∧c=0∧∃ (mb:Nat) (vs:List Value) (st:BSt),mo=some mb∧BfE (mlets gs) N st∧BI N st∧st.1.length≤5040∧1≤st.1.length∧BfM w.heap.size w' fv mb st.1 st.1 vs st.2)))
theorem BfE.len {ml:List (List Nat × Int)} {N:Nat} {st:BSt} (h:BfE ml N st):1≤st.1.length:=by
 obtain ⟨i,rfl,h2⟩:=h
 induction i with
 | zero=>exact Nat.le_refl 1
 | succ i ih =>
  have e:bfs ml N (i+1)=if i<(bfs ml N i).1.length then bfRow ml (bfs ml N i) i else bfs ml N i:=rfl;omega
theorem fcSearch_v (gv:Value) (d:Int) (ll:List (List Int)) (w:World) (h:Rg.Rows w gv ll) (hd:d≤12) :
  Calls Tryz.prog 51 #[.agg #[.int .i64 d,gv]] w fun ed w'=>∃ a n cap mo c,ed=.returned (.tuple #[.slice a n cap,.map mo,.int .i64 c])∧SrV d ll w w' (.slice a n cap) mo c∧Below w.heap.size w w':=by
 refine (fcSearch_any gv d ll w h hd).mono ?_
 rintro ed w' ⟨hb,⟨h1,rfl⟩ | ⟨h1,N,gs,O,R,e1,e2,h2,h3,h4,h5,⟨h6,rfl⟩ | ⟨h6,fv,mb,vs,st,rfl,h7,h8,h9⟩⟩⟩
 ·exact ⟨_,_,_,_,_,rfl,.inl ⟨h1,rfl,rfl⟩,hb⟩
 ·exact ⟨_,_,_,_,_,rfl,.inr ⟨h1,N,gs,O,R,e1,e2,h2,h3,h4,h5,.inl ⟨h6,rfl,rfl⟩⟩,hb⟩
 ·obtain ⟨a,c,hs⟩:=h9.shape
  subst hs
  have hl:st.1.length≤5040:=by
   obtain ⟨i,hi,_⟩:=h7;have:=bfs_few h4 h5 i;rw [hi] at this;omega
  exact ⟨_,_,_,_,_,rfl,.inr ⟨h1,N,gs,O,R,e1,e2,h2,h3,h4,h5,.inr ⟨h6,rfl,mb,vs,st,rfl,h7,h8,hl,h7.len,h9⟩⟩,hb⟩
theorem infoMW:(Tryz.prog.info? 76).map (fun i=>(i.zero,i.size,i.bytes))=some (some (.map none),1,8):=by kernel_rfl
theorem exec_allocMW {o:Oper} {a:Act} {w:World} (ho:o.op=.alloc 76):(execOp a.eval o).run Tryz.prog w=.ok (.value (.pointer (some ⟨w.heap.size,0,none⟩))) (w.alloc (.cells #[.map none] 76)):=by
 obtain ⟨i0,hi,hz0,hz1,hz2⟩:=info_parts infoMW;unfold execOp;simp [ho,Instr.alloc,typeInfo,zeroValue,hi,hz0,newVar,Value.cells,Result.andThen];rfl
theorem run_storeMW {w:World} {b:Nat} {u:Value} (mo:Option Nat) (h:w.cell? ⟨b,0,none⟩=some u) (hf:w.frozen? ⟨b,0,none⟩=false) :
  (storeVar 76 ⟨b,0,none⟩ (.map mo)).run Tryz.prog w=.ok () (w.setCell ⟨b,0,none⟩ (.map mo)):=by
 obtain ⟨i0,hi,hz0,hz1,hz2⟩:=info_parts infoMW
 have h0:(⟨b,0,none⟩:Addr).add 0=⟨b,0,none⟩:=by simp [Addr.add]
 simp [storeVar,sizeOf,typeInfo,hi,hz1,Value.cells,storeCells,store,h0];simp [Sem.run,h,hf]
theorem boxMW (W:World) (mo:Option Nat) (t:TypeId):CL ((W.alloc (.cells #[.map none] t)).setCell ⟨W.heap.size,0,none⟩ (.map mo)) W.heap.size 0 (.map mo)∧Below W.heap.size W ((W.alloc (.cells #[.map none] t)).setCell ⟨W.heap.size,0,none⟩ (.map mo)):=by
 have c0:(W.alloc (.cells #[.map none] t)).cell? ⟨W.heap.size,0,none⟩=some (.map none):=by rw [Rg.cellNew]; rfl
 exact ⟨⟨World.cell?_setCell_same (h:=c0) ..,by simp⟩,((Below.refl _ _).alloc (Nat.le_refl _) _).setCell (p:=⟨W.heap.size,0,none⟩) (Nat.le_refl _) _⟩
theorem foldW_any {N:Nat} {mb bx:Nat} {st:BSt} {vs:List Value} {xv:Value} {S:List (List Nat)} {w:World} (hr:Rg.Rows w xv (S.map Ma.ofN)) (hS:∀ x∈S,x∈st.1) (hl:S.length≤5040) (hq:WqM w.heap.size w mb st vs) (hbi:BI N st) (hN1:1≤N) (hN:N≤64) (hc:CL w bx 0 (.map (some mb))) :
  Calls Tryz.prog 54 #[xv,.slice none 0 0,(.func (.func 55) #[] #[.pointer (some ⟨bx,0,none⟩)])] w fun ed w'=>∃ v,ed=.returned v∧Rg.Rows w' v (S.map (wdOf st))∧Below w.heap.size w w':=by
 obtain ⟨xa,xc,e0,-⟩:=hr.shape;obtain ⟨n,hn⟩:∃ n,Hid (S.length=n):=⟨_,ι rfl⟩;rw [List.length_map,hn.out] at e0;subst e0;have HR:=ι hr;have HS:=ι hS;have HQ0:=ι hq;have HBI:=ι hbi;have CB0:=ι hc
 have hn5:n≤5040:=by rw [← hn.out]; exact hl
 clear hr hS hq hbi hc hl
 go_enter Tryz.func54,Tryz.ntmps54
 go_upto_region 0 with (fail);refine Rg.wl ?_;refine Rg.la 6 (.slice none 0 0) ?_;go_frame;go_upto_region 1 with (fail);refine Rg.wl ?_;refine Rg.lm 9 (.slice xa n xc) ?_;go_frame;refine Rg.lr 10 (exec_len _ _ _ rfl Tryz.underlying22 _ _ _ rfl) ?_;go_frame;refine Rg.lm 11 (.int .i64 ((0:Nat):Int)) ?_;go_frame;have RW0:=ι (show RowWd w.heap.size w (.slice none 0 0) ((S.take 0).map (wdOf st)) from RowWd.nil _ _);have K0:=ι (Below.refl w.heap.size w);go_wp2
 go_loopw [1,11] (fun vv iv wr=>∃ i:Nat,iv=.int .i64 ((i:Nat):Int)∧i≤n∧Hid (RowWd w.heap.size wr vv ((S.take i).map (wdOf st)))∧Hid (Below w.heap.size w wr)) (fun _ iv _=>n - (intOf iv).toNat)
 case atStart=>exact ⟨0,rfl,Nat.zero_le _,RW0,K0⟩
 case round =>
  clear RW0 K0;obtain ⟨i,rfl,hi,RW,K⟩:=hrel;obtain ⟨va,vc,hsh⟩:=RW.out.shape;obtain ⟨k,hk⟩:∃ k,Hid (((S.take i).map (wdOf st)).length=k):=⟨_,ι rfl⟩;rw [hk.out] at hsh;subst hsh
  by_cases hil:i<n
  case neg =>
   have HT:=ι (show S.take i=S from List.take_of_length_le (by have:=hn.out; omega));go_upto_region 2 with (fail);refine Rg.wl ?_;refine Rg.lr 12 (exec_bin (R:=.bool false) .lss _ _ _ rfl rfl rfl (b_lss _ Rg.dF)) ?_;go_frame;go_upto_region 6 with (fail);refine Rg.wl ?_;refine Rg.lm 20 (.slice va k vc) ?_;go_frame;refine Rg.la 6 (.slice va k vc) ?_;go_frame;go_wp2;go_ret;exact ⟨_,rfl,by have:=RW.out.rows (by rw [hk.out]; have:=hk.out; rw [List.length_map,List.length_take] at this; have:=hn.out; omega); rw [HT.out] at this; exact this,K.out⟩
  case pos =>
   have HIL:=ι hil
   have hiS:i<S.length:=by rw [hn.out]; exact hil
   obtain ⟨b,o,ua,uc,e1,hb0,hc0,hr0⟩:=rows_get HR.out (i:=i) (by rw [List.length_map]; exact hiS);subst e1;obtain ⟨x,hx⟩:∃ x,Hid (S[i]'hiS=x):=⟨_,ι rfl⟩
   have e5:((S.map Ma.ofN)[i]'(by rw [List.length_map]; exact hiS))=Ma.ofN x:=by rw [List.getElem_map,hx.out]
   rw [e5] at hc0 hr0;have CX:=ι ((CL.mk hc0 hb0).below K.out);have NX:=ι (NpI.below (NpI.mk hr0) K.out);have HQ:=ι (HQ0.out.below K.out);have CB:=ι (CB0.out.below K.out);have HXM:=ι (show x∈st.1 from hx.out▸HS.out _ (List.getElem_mem hiS));have HKL:=ι (show ((S.take i).map (wdOf st)).length<1000000 by rw [List.length_map,List.length_take]; omega);have HEN:=ι (show (S.take (i+1)).map (wdOf st)=(S.take i).map (wdOf st)++[wdOf st x] by rw [List.take_succ_eq_append_getElem hiS,List.map_append,hx.out]; rfl);clear hb0 hc0 hr0 e5;go_upto_region 2 with (fail);refine Rg.wl ?_;refine Rg.lr 12 (exec_bin (R:=.bool true) .lss _ _ _ rfl rfl rfl (b_lss _ Rg.dT)) ?_;go_frame;go_upto_region 3 with (fail);refine Rg.wl ?_;refine Rg.lr 13 (exec_indexS slPerms _ _ rfl b (o) (n) xc (i) rfl rfl HIL.out) ?_;go_frame;refine Rg.lr 14 (Rg.exec_load (v:=(.slice ua (Ma.ofN x).length uc)) _ _ rfl ⟨b,o+i,none⟩ rfl (Rg.run_loadSl _ _ Tryz.underlying30 CX.out.cell)) ?_;go_frame
   refine Rg.la 8 ((.slice ua (Ma.ofN x).length uc)) ?_;go_frame;go_upto_region 4 with (fail);refine Rg.wl ?_;refine Rg.lm 15 ((.func (.func 55) #[] #[.pointer (some ⟨bx,0,none⟩)])) ?_;go_frame;refine Rg.lm 16 (.slice va k vc) ?_;go_frame;refine Rg.lm 17 ((.slice ua (Ma.ofN x).length uc)) ?_;go_frame;refine Rg.lk 18 (exec_fnc2 55 _ _ _ _ rfl rfl rfl rfl (clWd1 _ _)) ?_;refine (words1_any RW.out K.out.size HQ.out HBI.out hN1 hN CB.out NX.out.i HXM.out HKL.out).mono ?_;rintro e1 w21 ⟨uv,rfl,huv,hb⟩;have RW2:=ι (show RowWd w.heap.size w21 uv ((S.take (i+1)).map (wdOf st)) by rw [HEN.out]; exact huv);have K2:=ι (hb _ _ (Nat.le_refl _) K.out);clear huv;refine ⟨_,rfl,?_⟩;go_frame;clear hb;refine Rg.la 1 (uv) ?_;go_frame;go_upto_region 5 with (fail);refine Rg.wl ?_;refine Rg.lr 19 (exec_bin (R:=.int .i64 (((i+1):Nat):Int)) .add _ _ _ rfl rfl rfl (b_add _ (by omega) (by omega))) ?_;go_frame
   refine Rg.lm 11 (.int .i64 (((i+1):Nat):Int)) ?_;go_frame;go_wp2
   go_roundw
   case rel=>exact ⟨i+1,by go_num,HIL.out,RW2,K2⟩
   case measure=>simp [intOf]; have:=HIL.out; omega
theorem clSF (args:Array Value) (w:World):(callFunc 52 args).run Tryz.prog w=.ok (.enter 52 args) w:=by kernel_rfl
def WdV (d:Int) (ll:List (List Int)) (l:List (List Int)) (c:Int):Prop :=
 (Ma.gchk d ll≠0∧c=Ma.gchk d ll∧l=[]) ∨
  (Ma.gchk d ll=0∧∃ (N:Nat) (gs:List (List Nat)) (O:List (List Nat)) (R:List (List (List Nat))),d=((N:Nat):Int)∧ll=gs.map Ma.ofN∧1≤N∧gs.length≤16∧(∀ s∈gs,Gd N s)∧IsChain N (Cm.Gr N (·∈gs)) O R ∧
   ((5040<szD O N N∧c=5∧l=[]) ∨
   (szD O N N≤5040∧c=0∧∃ (st:BSt) (S:List (List Nat)),BfE (mlets gs) N st∧BI N st∧S.Perm st.1∧(S.map Ma.ofN).Pairwise (fun a b=>lessL b a=false)∧l=S.map (wdOf st))))
def WdPost (d:Int) (ll:List (List Int)) (w:World) (ed:Ending) (w':World):Prop:=∃ v l c,ed=.returned (.tuple #[v,.int .i64 c])∧WdV d ll l c∧Rg.Rows w' v l∧Below w.heap.size w w'
theorem rows_nil (w:World):Rg.Rows w (.slice none 0 0) []:=Rg.Rows.nil w none 0 (Nat.zero_le _)
theorem fcWords_any (gv:Value) (d:Int) (ll:List (List Int)) (w:World) (h:Rg.Rows w gv ll) (hd:d≤12) :
  Calls Tryz.prog 18 #[.agg #[.int .i64 d,gv]] w (WdPost d ll w):=by
 obtain ⟨ga,gc,rfl,hga,hba⟩:=GI.enter (d) h;have K:=ι hba;have G0:=ι hga;clear h hga hba
 go_enter Tryz.func18,Tryz.ntmps18
 go_upto_region 0 with (fail);refine Rg.wl ?_;refine Rg.lr 1 (Rg.exec_box _ _ rfl rfl) ?_;go_frame;refine Rg.la 2 (.slice none 0 0) ?_;go_frame;refine Rg.la 3 (.int .i64 0) ?_;go_frame;obtain ⟨gb,hgb⟩:∃ gb,w.heap.size=gb:=⟨_,rfl⟩;rw [hgb] at G0 ⊢;generalize w.alloc (.cells #[.int .i64 d,.slice ga ll.length gc] 24)=w0 at *;clear hgb;have HW0:=ι K.out.size;go_upto_region 1 with (fail);refine Rg.wl ?_;refine Rg.lr 8 (Rg.exec_load (v:=.agg #[.int .i64 d,.slice ga ll.length gc]) _ _ rfl ⟨gb,0,none⟩ rfl (run_loadG G0.out.c0 G0.out.c1)) ?_;go_frame;refine Rg.lk 9 (exec_fn1 51 _ _ rfl rfl (Bmcl0 _ _)) ?_;refine (fcSearch_v _ d ll w0 G0.out.rows hd).mono ?_;rintro e1 w1 ⟨fa,fn,fc,mo,c,rfl,hsr,hb⟩;have SR:=ι hsr;have HSZ:=ι hb.size;clear hsr;refine ⟨_,rfl,?_⟩;go_frame;replace G0:=ι (G0.out.below hb);replace K:=ι (Rg.acc K.out hb);clear hb;refine Rg.lm 7 (.tuple #[.slice fa fn fc,(.map mo),.int .i64 c]) ?_;go_frame
 refine Rg.lr 10 (exec_extract (v:=.slice fa fn fc) _ _ rfl rfl rfl) ?_;go_frame;refine Rg.lr 11 (exec_extract (v:=(.map mo)) _ _ rfl rfl rfl) ?_;go_frame;refine Rg.lr 12 (exec_extract (v:=.int .i64 c) _ _ rfl rfl rfl) ?_;go_frame;refine Rg.lr 5 (exec_allocMW rfl) ?_;go_frame;refine Rg.la 4 (.slice fa fn fc) ?_;go_frame;refine Rg.list_skip none rfl rfl (Rg.exec_store _ _ _ rfl _ rfl _ rfl (run_storeMW _ (by rw [Rg.cellNew]; rfl) (frozenNewN _ _ _ 0 _))) ?_;go_frame;have hbx:=boxMW w1 mo 76;have HKS:=ι hbx.2;have hb:=hbx.2;generalize (w1.alloc (.cells #[.map none] 76)).setCell ⟨w1.heap.size,0,none⟩ (.map mo)=w2 at *;replace G0:=ι (G0.out.below hb);replace K:=ι (Rg.acc K.out hb);clear hb;have CB:=ι hbx.1;clear hbx;refine Rg.la 6 (.int .i64 c) ?_;go_frame
 rcases SR.out with ⟨h1,rfl,-⟩ | ⟨h1,N,gs,O,R,rfl,rfl,hN1,hgl,hgd,hch,⟨h2,rfl,-⟩ | ⟨h2,rfl,mb,vs,st,rfl,hbe,hbi,hl,hl1,hbf⟩⟩
 ·skip
  go_upto_region 2 with (fail);refine Rg.wl ?_;refine Rg.lm 13 (.int .i64 (Ma.gchk d ll)) ?_;go_frame;refine Rg.lr 14 (exec_bin (R:=.bool true) .neq _ _ _ rfl rfl rfl (b_neqB _ (decide_eq_true h1))) ?_;go_frame;go_upto_region 3 with (fail);refine Rg.wl ?_;refine Rg.lm 15 (.int .i64 (Ma.gchk d ll)) ?_;go_frame;refine Rg.la 2 (.slice none 0 0) ?_;go_frame;refine Rg.la 3 (.int .i64 (Ma.gchk d ll)) ?_;go_frame;go_wp2
  go_ret2
  exact ⟨_,[],_,rfl,.inl ⟨h1,rfl,rfl⟩,rows_nil _,K.out⟩
 ·skip
  go_upto_region 2 with (fail);refine Rg.wl ?_;refine Rg.lm 13 (.int .i64 5) ?_;go_frame;refine Rg.lr 14 (exec_bin (R:=.bool true) .neq _ _ _ rfl rfl rfl (b_neqB _ (decide_eq_true (by decide)))) ?_;go_frame;go_upto_region 3 with (fail);refine Rg.wl ?_;refine Rg.lm 15 (.int .i64 5) ?_;go_frame;refine Rg.la 2 (.slice none 0 0) ?_;go_frame;refine Rg.la 3 (.int .i64 5) ?_;go_frame;go_wp2
  go_ret2
  exact ⟨_,[],_,rfl,.inr ⟨h1,N,gs,O,R,rfl,rfl,hN1,hgl,hgd,hch,.inl ⟨h2,rfl,rfl⟩⟩,rows_nil _,K.out⟩
 ·skip
  go_upto_region 2 with (fail);refine Rg.wl ?_;refine Rg.lm 13 (.int .i64 0) ?_;go_frame;refine Rg.lr 14 (exec_bin (R:=.bool false) .neq _ _ _ rfl rfl rfl (b_neqB _ (decide_eq_false (by decide)))) ?_;go_frame;have HBF:=ι hbf;have HBE:=ι hbe;have HBI:=ι hbi;clear hbf hbe hbi SR;have HBB:=ι (show w1.heap.size≤w1.heap.size from Nat.le_refl _);have HB2:=ι (HBF.out.below HKS.out);obtain ⟨fb,cap,us,e1,hus,hlt,hcap,hcm,hcells⟩:=HB2.out.opened hl1;have hfbl:=HBF.out.lt1 fb (by rw [e1]; rfl);have hflo:=HBF.out.lo fb (by rw [e1]; rfl);have HFLO:=ι (Nat.le_trans HW0.out hflo);clear hflo;simp only [Value.slice.injEq] at e1;obtain ⟨rfl,rfl,rfl⟩:=e1;have HFL:=ι hfbl;clear hfbl;go_upto_region 4 with (fail);refine Rg.wl ?_;refine Rg.lm 16 (.slice (some ⟨fb,0,none⟩) st.1.length fc) ?_;go_frame;refine Rg.lk 17 (exec_fn 52 _ _ _ rfl rfl rfl (clSF _ _)) ?_;have hll:(st.1.map Ma.ofN).length=st.1.length:=List.length_map ..
  rw [← hll] at hcap ⊢;refine (sortPP (blk:=fb) hus (fun g=>g.2.2 rfl) hcells hlt (by rw [hll]; omega) hcap hcm).mono ?_;rintro e1 w9 ⟨rfl,ll',hp,hpw,hrows,hk⟩;refine ⟨_,rfl,?_⟩;rw [hll] at hrows ⊢;go_frame
  have hSp:(ll'.map (List.map Int.toNat)).Perm st.1:=by
   have:=hp.map (List.map Int.toNat)
   rwa [List.map_map,show (List.map Int.toNat ∘ Ma.ofN)=id from funext fun x=>ofN_back x,List.map_id] at this
  have hSe:(ll'.map (List.map Int.toNat)).map Ma.ofN=ll':=by
   rw [List.map_map]
   conv=>rhs; rw [← List.map_id ll']
   refine List.map_congr_left fun y hy=>?_;obtain ⟨x,hx,rfl⟩:=List.mem_map.1 (hp.mem_iff.1 hy);show Ma.ofN ((Ma.ofN x).map Int.toNat)=Ma.ofN x;rw [ofN_back]
  generalize ll'.map (List.map Int.toNat)=S at hSp hSe;subst hSe;have HRW:=ι hrows;have HSP:=ι hSp;have HPW:=ι hpw;have HQ:=ι (show WqM w9.heap.size w9 mb st vs from ⟨HB2.out.map.of_block (hk.block mb HB2.out.map.lt (fun e=>HB2.out.off (by rw [← e]; rfl))),(HB2.out.els.kp hk (fun k g e=>g.2.2 (by rw [e]; rfl))).mono (fun k g=>Nat.lt_of_lt_of_le g.1 hk.size)⟩);have CB9:=ι (CB.out.kp hk (fun e=>by have:=HFL.out; have:=HBB.out; omega));have K9:=ι (kp_below K.out K.out.size hk (fun k e=>by rw [e]; exact HFLO.out));clear hrows hSp hpw hk hp hus hlt hcap hcm hcells hll CB K;go_upto_region 5 with (fail);refine Rg.wl ?_;refine Rg.lm 18 (.slice (some ⟨fb,0,none⟩) st.1.length fc) ?_;go_frame;refine Rg.lr 19 (exec_makeFunc 55 _ rfl rfl) ?_;go_frame;refine Rg.lk 20 (exec_fn3 54 _ _ _ _ rfl rfl rfl rfl (Bmcl1 _ _)) ?_;refine (foldW_any HRW.out (fun x hx=>HSP.out.mem_iff.1 hx) (by rw [HSP.out.length_eq]; exact hl) HQ.out HBI.out hN1 (by omega) CB9.out).mono ?_
  rintro e1 w301 ⟨rv,rfl,hrv,hb⟩;refine ⟨_,rfl,?_⟩;go_frame;replace CB9:=ι (CB9.out.below hb);replace K9:=ι (Rg.acc K9.out hb);clear hb;refine Rg.la 2 (rv) ?_;go_frame;refine Rg.la 3 (.int .i64 ((0:Nat):Int)) ?_;go_frame;go_wp2
  go_ret2
  exact ⟨_,_,_,rfl,.inr ⟨h1,N,gs,O,R,rfl,rfl,hN1,hgl,hgd,hch,.inr ⟨h2,rfl,st,S,HBE.out,HBI.out,HSP.out,HPW.out,rfl⟩⟩,hrv,K9.out⟩

theorem Bncl0 (args:Array Value) (w:World):(callFunc 25 args).run Tryz.prog w=.ok (.enter 25 args) w:=by kernel_rfl
theorem Bncl1 (args:Array Value) (w:World):(callFunc 13 args).run Tryz.prog w=.ok (.enter 13 args) w:=by kernel_rfl
theorem Bncl2 (args:Array Value) (w:World):(callFunc 15 args).run Tryz.prog w=.ok (.enter 15 args) w:=by kernel_rfl
theorem Bncl3 (args:Array Value) (w:World):(callFunc 18 args).run Tryz.prog w=.ok (.enter 18 args) w:=by kernel_rfl
theorem Bncl4 (args:Array Value) (w:World):(callFunc 27 args).run Tryz.prog w=.ok (.enter 27 args) w:=by kernel_rfl
theorem Bncl5 (args:Array Value) (w:World):(callFunc 24 args).run Tryz.prog w=.ok (.enter 24 args) w:=by kernel_rfl
theorem sameWords_q (v1 v2:Value) (l1 l2:List (List Int)) (w:World) (h1:Rg.Rows w v1 l1) (h2:Rg.Rows w v2 l2) :
  Calls Tryz.prog 24 #[v1,v2] w fun e w'=>e=.returned (.bool (decide (l1=l2)))∧∃ k,w'=w.drewN k:=by
 obtain ⟨a1,c1,rfl,n1,m1,_,k1⟩:=h1.shape;obtain ⟨a2,c2,rfl,n2,m2,_,k2⟩:=h2.shape;clear h1 h2;have K1:=ι k1;have K2:=ι k2;clear k1 k2;generalize hD:decide (l1=l2)=D;have HD:=ι hD;clear hD
 by_cases hl:l1.length=l2.length
 ·have hb:((l1.length:Int) != (l2.length:Int))=false:=by rw [hl]; simp
  have Hl:=ι hl;clear hl
  go_enter Tryz.func24,Tryz.ntmps24
  go_wp2;clear hb
  go_loopw [5] (fun v wr=>∃ i:Nat,v=.int .i64 i∧i≤l1.length∧Hid (∃ k,wr=w.drewN k)∧Hid (l1.take i=l2.take i)) (fun v _=>l1.length - (intOf v).toNat)
  case atStart=>exact ⟨0,rfl,by omega,⟨0,rfl⟩,by show _=_; simp⟩
  case round =>
   obtain ⟨i,rfl,hi,hw,hs⟩:=hrel
   by_cases hlt:i<l1.length
   ·have hi2:i<l2.length:=by have:=Hl.out; omega
    obtain ⟨b1,o1,rfl,hb1,d1⟩:=K1.out (by omega);obtain ⟨b2,o2,rfl,hb2,d2⟩:=K2.out (by omega);obtain ⟨u1,y1,hu1⟩:=d1 i hlt;obtain ⟨u2,y2,hu2⟩:=d2 i hi2
    have x1:wr.cell? ⟨b1,o1+i,none⟩=some u1:=by obtain ⟨k,e⟩:=hw.out; rw [e]; exact y1
    have x2:wr.cell? ⟨b2,o2+i,none⟩=some u2:=by obtain ⟨k,e⟩:=hw.out; rw [e]; exact y2
    have hlt2:(i:Int)<(l2.length:Int):=by omega
    generalize hx:l1[i]=x at hu1;generalize hy:l2[i]=y at hu2;have Hx:=ι hx;have Hy:=ι hy;clear d1 d2 hx hy y1 y2;have hq:∀ n,_:=fun n=>Same_q u1 u2 x y (wr.drewN n) (by obtain ⟨k,e⟩:=hw.out; rw [e]; exact hu1) (by obtain ⟨k,e⟩:=hw.out; rw [e]; exact hu2)
    by_cases he:x=y
    ·have hdd:decide (x=y)=true:=decide_eq_true he
     have He:=ι he;rw [hdd] at hq;have Hq:=ι hq;clear he hdd hq;go_wp2
     go_quiet ((go_at_call 15; exact Calls.quiet_of (Hq.out _)))
     go_wp2
     go_roundw
     case rel=>exact ⟨i+1,by go_num,by omega,by obtain ⟨k,e⟩:=hw.out; rw [e]; exact ⟨_,World.drewN_drewN _ _ _⟩,by show _=_; rw [List.take_succ_eq_append_getElem hlt,List.take_succ_eq_append_getElem hi2,hs.out,Hx.out,Hy.out,He.out]⟩
     case measure=>simp [intOf]; omega
    ·have hdd:decide (x=y)=false:=decide_eq_false he
     have He:=ι he;rw [hdd] at hq;have Hq:=ι hq;clear he hdd hq;go_wp2
     go_quiet ((go_at_call 15; exact Calls.quiet_of (Hq.out _)))
     go_wp2;go_ret;exact ⟨Rg.ret_bool (by rw [← HD.out]; symm; rw [decide_eq_false_iff_not]; intro hc; subst hc; exact He.out (Hx.out.symm.trans Hy.out)),by obtain ⟨k,e⟩:=hw.out; rw [e]; exact ⟨_,World.drewN_drewN _ _ _⟩⟩
   ·go_wp2
    go_ret;refine ⟨Rg.ret_bool ?_,hw.out⟩;rw [← HD.out]; symm;rw [decide_eq_true_eq];have h1:=hs.out
    rwa [List.take_of_length_le (by omega),List.take_of_length_le (by have:=Hl.out; omega)] at h1
 ·have hb:((l1.length:Int) != (l2.length:Int))=true:=by rw [bne_iff_ne]; omega
  have Hl:=ι hl;clear hl
  go_enter Tryz.func24,Tryz.ntmps24
  go_wp2;go_ret;exact ⟨Rg.ret_bool (by rw [← HD.out]; symm; rw [decide_eq_false_iff_not]; intro hc; subst hc; exact Hl.out rfl),0,rfl⟩
theorem sameWords_b {v1 v2:Value} {l1 l2:List (List Int)} {w:World} {b:Bool} (h1:Rg.Rows w v1 l1) (h2:Rg.Rows w v2 l2) (hd:Hid (decide (l1=l2)=b)) :
  Calls Tryz.prog 24 #[v1,v2] w fun e w'=>e=.returned (.bool b)∧Below w.heap.size w w':=by
 refine (sameWords_q v1 v2 l1 l2 w h1 h2).mono ?_;rintro e w' ⟨rfl,k,rfl⟩;exact ⟨by rw [hd.out],Rg.drewN (Below.refl _ _) k⟩
theorem three10_any (w:World):Calls Tryz.prog 25 #[] w (GPost 3 [[1,0,2],[0,2,1]] w):=by
 go_enter Tryz.func25,Tryz.ntmps25
 go_upto_region 1 with (fail);generalize hW:w.alloc (.cells #[.int .i64 0,.slice none 0 0] 24)=W0
 have hsz:W0.heap.size=w.heap.size+1:=by rw [← hW]; simp
 have hbW:Below w.heap.size w W0:=by rw [← hW]; exact (Below.refl _ _).alloc (Nat.le_refl _) _
 have hc1:W0.cell? ⟨w.heap.size,0,none⟩=some (.int .i64 0):=by rw [← hW,Rg.cellNew]; rfl
 have hc2:W0.cell? ⟨w.heap.size,1,none⟩=some (.slice none 0 0):=by rw [← hW,Rg.cellNew]; rfl
 have hf1:∀ o,W0.frozen? ⟨w.heap.size,o,none⟩=false:=fun o=>by rw [← hW]; exact frozenNewN _ _ _ 0 _
 clear hW;refine Rg.wl ?_;have i1:=ints_new W0 3 [1,0,2] (by decide);have b1:Below W0.heap.size W0 _:=(Below.refl W0.heap.size W0).alloc (Nat.le_refl _) (.cells (([1,0,2]:List Int).map (Value.int .i64)).toArray 3);refine Rg.lr 1 (exec_flat _ _ 3 _ rfl [1,0,2] Tryz.underlying30 szInt zInt rfl (by decide) (by decide) rfl) ?_;go_frame;generalize W0.alloc (.cells (([1,0,2]:List Int).map (Value.int .i64)).toArray 3)=W1 at *;have i2:=ints_new W1 3 [0,2,1] (by decide);have b2:Below W1.heap.size W1 _:=(Below.refl W1.heap.size W1).alloc (Nat.le_refl _) (.cells (([0,2,1]:List Int).map (Value.int .i64)).toArray 3);refine Rg.lr 2 (exec_flat _ _ 3 _ rfl [0,2,1] Tryz.underlying30 szInt zInt rfl (by decide) (by decide) rfl) ?_;go_frame;generalize W1.alloc (.cells (([0,2,1]:List Int).map (Value.int .i64)).toArray 3)=W2 at *
 have g3:=rowsF_new (B:=w.heap.size+1) (w:=W2) 30 [.slice (some ⟨W0.heap.size,0,none⟩) 3 3,.slice (some ⟨W1.heap.size,0,none⟩) 3 3] [[1,0,2],[0,2,1]] rfl (by simp) (by
  have s1:=b1.size;have s2:=b2.size;intro i h h2
  match i,h,h2 with
  | 0,_,_=>exact ⟨(i1.below b2),(Rg.Fresh.mk _ _ _ _).mono (by omega)⟩
  | 1,_,_=>exact ⟨i2,(Rg.Fresh.mk _ _ _ _).mono (by omega)⟩) (by have s1:=b1.size; have s2:=b2.size; omega)
 have bz:Below W2.heap.size W2 _:=(Below.refl W2.heap.size W2).alloc (Nat.le_refl _) (.cells #[.slice (some ⟨W0.heap.size,0,none⟩) 3 3,.slice (some ⟨W1.heap.size,0,none⟩) 3 3] 30);refine Rg.lr 3 (exec_buildP (u1:=.slice (some ⟨W0.heap.size,0,none⟩) 3 3) (u2:=.slice (some ⟨W1.heap.size,0,none⟩) 3 3) _ _ rfl rfl rfl (run_buildP2 _ _ _ ⟨_,_,_,rfl⟩ ⟨_,_,_,rfl⟩)) ?_;go_frame;have hb3:=(Rg.acc b1 (Rg.acc b2 bz));clear bz b1 i1 b2 i2;have g4:RowsF (w.heap.size+1) (W2.alloc (.cells #[.slice (some ⟨W0.heap.size,0,none⟩) 3 3,.slice (some ⟨W1.heap.size,0,none⟩) 3 3] 30)) (.slice (some ⟨W2.heap.size,0,none⟩) 2 2) [[1,0,2],[0,2,1]]:=g3;clear g3;generalize W2.alloc (.cells #[.slice (some ⟨W0.heap.size,0,none⟩) 3 3,.slice (some ⟨W1.heap.size,0,none⟩) 3 3] 30)=Z at *;refine Rg.lr 4 (exec_buildG (d:=3) _ _ rfl rfl rfl) ?_;go_frame;obtain ⟨kc,kf⟩:=Rg.bcell hb3
 have lt1:w.heap.size<W0.heap.size:=by omega
 have r0:=(kc _ 0 lt1).trans hc1;have r1:=(kc _ 1 lt1).trans hc2;have rf:=fun o=>(kf _ o lt1).trans (hf1 o);obtain ⟨p0,p1,p2⟩:=group_set (.int .i64 3) (.slice (some ⟨W2.heap.size,0,none⟩) 2 2) r0 r1 (Rg.acc hbW hb3) (by omega);have hR:=((g4.set w.heap.size 0 (.int .i64 3) (by omega)).set w.heap.size 1 (.slice (some ⟨W2.heap.size,0,none⟩) 2 2) (by omega)).mono (B':=w.heap.size) (by omega);refine Rg.list_skip none rfl rfl (Rg.exec_store _ _ _ rfl _ rfl _ rfl (run_storeG 3 _ 2 2 r0 r1 (rf 0) (rf 1))) ?_;go_frame;generalize (Z.setCell ⟨w.heap.size,0,none⟩ (.int .i64 3)).setCell ⟨w.heap.size,1,none⟩ (.slice (some ⟨W2.heap.size,0,none⟩) 2 2)=W6 at *;have H:=ι (And.intro p0 (And.intro p1 (And.intro p2 hR)));clear hc1 hc2 hf1 kc kf r0 r1 rf p0 p1 p2 hR g4;go_wp2;exact bodyPost_ret (results_cellG rfl _ rfl H.out.1 H.out.2.1) rfl ⟨_,_,_,rfl,H.out.2.2.2,H.out.2.2.1⟩
def G3:List (List Nat):=[[1,0,2],[0,2,1]]
theorem gchk3:Ma.gchk 3 [[1,0,2],[0,2,1]]=0:=by decide
theorem bf3:BfE (mlets G3) 3 (bfs (mlets G3) 3 6):=⟨6,rfl,by decide +kernel⟩
theorem asc_only {S T:List (List Nat)} (h:S.Perm T) (hs:(S.map Ma.ofN).Pairwise (fun a b=>lessL b a=false)) (ht:(T.map Ma.ofN).Pairwise (fun a b=>lessL b a=false)):S=T:=by
 refine map_ofN_inj ?_;refine List.Perm.eq_of_pairwise (le:=fun a b=>lessL b a=false) ?_ hs ht (h.map _);intro a b _ _ h1 h2
 by_cases e:a=b
 ·exact e
 ·have:=lessL_total h2 e
  rw [h1] at this; cases this
theorem wdV_three {l:List (List Int)} {c:Int} (h:WdV 3 [[1,0,2],[0,2,1]] l c):l=[[],[2],[1],[2,1],[1,2],[1,2,1]]∧c=0:=by
 rcases h with ⟨h,_⟩ | ⟨_,N,gs,O,R,e1,e2,hN1,hgl,hgd,hch,⟨h2,_⟩ | ⟨h2,rfl,st,S,hbe,hbi,hp,hpw,rfl⟩⟩
 ·exact absurd gchk3 h
 ·exfalso
  obtain rfl:N=3:=by omega
  have h7:=prodK_720 (Cm.Gr.isG hgd) hch (by decide) (Nat.le_refl 3);rw [szD_len hch] at h7;omega
 ·obtain rfl:N=3:=by omega
  have e3:G3=gs:=map_ofN_inj (show G3.map Ma.ofN=gs.map Ma.ofN from e2);subst e3;have:=hbe.uniq bf3;subst this
  have hS:S=[[0,1,2],[0,2,1],[1,0,2],[1,2,0],[2,0,1],[2,1,0]]:=by
   have h0:([[0,1,2],[0,2,1],[1,0,2],[1,2,0],[2,0,1],[2,1,0]]:List (List Nat)).Perm (bfs (mlets G3) 3 6).1:=by decide +kernel
   exact asc_only (hp.trans h0.symm) hpw (by decide +kernel)
  subst hS;exact ⟨by decide +kernel,rfl⟩
theorem evV_three {u l:List Int} (hu:u.length≤4000) (ho:okW 2 u) (hl:l=Ma.ofN (evN 3 G3 u)):EvV 3 [[1,0,2],[0,2,1]] u l 0 :=
 .inr (.inr (.inr ⟨gchk3,hu,ho,3,G3,rfl,rfl,rfl,hl⟩))
theorem run_build6W (X:World) (u1 u2 u3 u4 u5 u6:Value) (h1:∃ a n c,u1=.slice a n c) (h2:∃ a n c,u2=.slice a n c) (h3:∃ a n c,u3=.slice a n c) (h4:∃ a n c,u4=.slice a n c) (h5:∃ a n c,u5=.slice a n c) (h6:∃ a n c,u6=.slice a n c) :
  (Instr.buildSlice 39 6 #[(0,u1),(1,u2),(2,u3),(3,u4),(4,u5),(5,u6)]).run Tryz.prog X=.ok (.slice (some ⟨X.heap.size,0,none⟩) 6 6) (X.alloc (.cells #[u1,u2,u3,u4,u5,u6] 26)):=by
 obtain ⟨i0,hi,hz0,hz1,hz2⟩:=info_parts infoWordB;obtain ⟨_,_,_,rfl⟩:=h1;obtain ⟨_,_,_,rfl⟩:=h2;obtain ⟨_,_,_,rfl⟩:=h3;obtain ⟨_,_,_,rfl⟩:=h4;obtain ⟨_,_,_,rfl⟩:=h5;obtain ⟨_,_,_,rfl⟩:=h6;refine run_buildSlice X 39 26 6 _ _ i0 _ Tryz.underlying39 hi hz0 (by rw [hz1]; decide) (by rw [hz1]; decide) ?_;generalize (fun x=>((Value.slice none 0 0).cells)[x % (Value.slice none 0 0).cells.size]!)=f;rw [hz1];have h1:Array.range (6*1)=#[0,1,2,3,4,5]:=rfl;simp [Instr.fill,Value.cells,h1]
theorem exec_build6W {o:Oper} {a:Act} {w w':World} {v u1 u2 u3 u4 u5 u6:Value} (x1 x2 x3 x4 x5 x6:Operand) (ho:o.op=.buildSlice 39 6 #[(0,x1),(1,x2),(2,x3),(3,x4),(4,x5),(5,x6)]) (h1:a.eval x1=u1) (h2:a.eval x2=u2) (h3:a.eval x3=u3) (h4:a.eval x4=u4) (h5:a.eval x5=u5) (h6:a.eval x6=u6)
  (hr:(Instr.buildSlice 39 6 #[(0,u1),(1,u2),(2,u3),(3,u4),(4,u5),(5,u6)]).run Tryz.prog w=.ok v w'):(execOp a.eval o).run Tryz.prog w=.ok (.value v) w':=by
 subst h1 h2 h3 h4 h5 h6;unfold execOp;simp only [ho,Sem.run_bind,Sem.run_pure];simp only [List.map_toArray,List.map_cons,List.map_nil];rw [hr];rfl
theorem rows6W {W:World} {u1 u2 u3 u4 u5 u6:Value} {l1 l2 l3 l4 l5 l6:List Int} (h1:NpI W u1 l1) (h2:NpI W u2 l2) (h3:NpI W u3 l3) (h4:NpI W u4 l4) (h5:NpI W u5 l5) (h6:NpI W u6 l6) :
  Rg.Rows (W.alloc (.cells #[u1,u2,u3,u4,u5,u6] 26)) (.slice (some ⟨W.heap.size,0,none⟩) 6 6) [l1,l2,l3,l4,l5,l6]:=by
 have hb:Below W.heap.size W (W.alloc (.cells #[u1,u2,u3,u4,u5,u6] 26)):=(Below.refl _ _).alloc (Nat.le_refl _) _;refine ⟨[u1,u2,u3,u4,u5,u6],Rg.BlkF.vals (Rg.BlkF.new W [u1,u2,u3,u4,u5,u6] 26 (Nat.le_refl _)) (by simp),rfl,fun i a b=>?_⟩
 match i,a,b with
 | 0,_,_=>exact (h1.below hb).i
 | 1,_,_=>exact (h2.below hb).i
 | 2,_,_=>exact (h3.below hb).i
 | 3,_,_=>exact (h4.below hb).i
 | 4,_,_=>exact (h5.below hb).i
 | 5,_,_=>exact (h6.below hb).i
theorem evals_yes {wv xv:Value} {u l:List Int} {w:World} (hu:Rg.Ints w wv u) (hx:Rg.Ints w xv l) (hul:u.length≤4000) (ho:okW 2 u) (hl:l=Ma.ofN (evN 3 G3 u)) :
  Calls Tryz.prog 27 #[wv,xv] w fun e w'=>e=.returned (.bool true)∧Below w.heap.size w w':=by
 obtain ⟨wa,wc,rfl,-⟩:=hu.shape;obtain ⟨xa,xc,rfl,-⟩:=hx.shape;have HV:=ι (evV_three hul ho hl);have HU:=ι (NpI.mk hu);have HX:=ι (NpI.mk hx);have K:=ι (Below.refl w.heap.size w);clear hu hx hl ho
 go_enter Tryz.func27,Tryz.ntmps27
 go_upto_region 0 with (fail);refine Rg.wl ?_;refine Rg.la 4 (.bool false) ?_;go_frame;go_upto_region 1 with (fail);refine Rg.wl ?_;refine Rg.lk 8 (exec_fn0 25 _ rfl (Bncl0 _ _)) ?_;refine (three10_any w).mono ?_;rintro e1 w1 ⟨ga,gn,gc,rfl,hgr,hb⟩;have hgr2:=hgr.rows;refine ⟨_,rfl,?_⟩;go_frame;replace HU:=ι (HU.out.below hb);replace HX:=ι (HX.out.below hb);replace K:=ι (Rg.acc K.out hb);clear hb;have GR:=ι (RsO.mk hgr2);refine Rg.lm 9 (.slice wa u.length wc) ?_;go_frame;clear hgr hgr2;refine Rg.lk 10 (exec_fn 13 _ _ _ rfl rfl rfl (Bncl1 _ _)) ?_;refine (fcEval_any _ _ 3 [[1,0,2],[0,2,1]] u w1 GR.out.r HU.out.i).mono ?_;rintro e1 w2 ⟨rv,rl,rc,rfl,hev,hri,hb⟩;obtain ⟨rfl,rfl⟩:=HV.out.uniq hev;obtain ⟨ra,rcc,rfl,-⟩:=hri.shape;clear hev;refine ⟨_,rfl,?_⟩;go_frame;replace HU:=ι (HU.out.below hb);replace HX:=ι (HX.out.below hb);replace GR:=ι (GR.out.below hb)
 replace K:=ι (Rg.acc K.out hb);clear hb;have HR:=ι (NpI.mk hri);refine Rg.lm 7 (.tuple #[.slice ra l.length rcc,.int .i64 0]) ?_;go_frame;refine Rg.lr 11 (exec_extract (v:=.slice ra l.length rcc) _ _ rfl rfl rfl) ?_;go_frame;refine Rg.lr 12 (exec_extract (v:=.int .i64 0) _ _ rfl rfl rfl) ?_;go_frame;refine Rg.la 5 (.slice ra l.length rcc) ?_;go_frame;refine Rg.la 6 (.int .i64 0) ?_;go_frame;clear hri GR;go_upto_region 2 with (fail);refine Rg.wl ?_;refine Rg.lm 13 (.slice ra l.length rcc) ?_;go_frame;refine Rg.lm 14 (.slice xa l.length xc) ?_;go_frame;refine Rg.lk 15 (exec_fn 15 _ _ _ rfl rfl rfl (Bncl2 _ _)) ?_;refine (Same_any (w0:=w2) (b:=true) HR.out.i HX.out.i (ι (decide_eq_true rfl)) (Below.refl _ _)).mono ?_;rintro e1 w3 ⟨rfl,hb⟩;refine ⟨_,rfl,?_⟩;go_frame;replace HU:=ι (HU.out.below hb);replace HX:=ι (HX.out.below hb);replace HR:=ι (HR.out.below hb);replace K:=ι (Rg.acc K.out hb)
 clear hb;refine Rg.lm 16 (.bool true) ?_;go_frame;refine Rg.lW 17 (Rg.xm (.int .i64 0) _ rfl rfl) ?_;go_frame;refine Rg.lW 18 (exec_eqI _ _ rfl rfl rfl rfl) ?_;go_frame;refine Rg.lr 19 (exec_pickT (v:=.bool true) _ _ _ rfl rfl rfl) ?_;go_frame;refine Rg.la 4 (.bool true) ?_;go_frame;go_wp2;go_ret;exact ⟨rfl,K.out⟩
theorem awake10_any (w:World):Calls Tryz.prog 11 #[] w fun e w'=>e=.returned (.bool true)∧Below w.heap.size w w':=by
 have K:=ι (Below.refl w.heap.size w)
 go_enter Tryz.func11,Tryz.ntmps11
 go_upto_region 0 with (fail);refine Rg.wl ?_;refine Rg.la 0 (.bool false) ?_;go_frame;go_upto_region 1 with (fail);refine Rg.wl ?_;refine Rg.lk 4 (exec_fn0 25 _ rfl (Bncl0 _ _)) ?_;refine (three10_any w).mono ?_;rintro e1 w1 ⟨ga,gn,gc,rfl,hgr,hb⟩;have hgr2:=hgr.rows;refine ⟨_,rfl,?_⟩;go_frame;replace K:=ι (Rg.acc K.out hb);clear hb;have GR:=ι (RsO.mk hgr2);clear hgr hgr2;refine Rg.lk 5 (exec_fn1 18 _ _ rfl rfl (Bncl3 _ _)) ?_;refine (fcWords_any _ 3 [[1,0,2],[0,2,1]] w1 GR.out.r (by decide)).mono ?_;rintro e1 w2 ⟨rv,rl,rc,rfl,hev,hri,hb⟩;obtain ⟨rfl,rfl⟩:=wdV_three hev;obtain ⟨ra,rcc,hsh,-⟩:=hri.shape;rw [show ([[],[2],[1],[2,1],[1,2],[1,2,1]]:List (List Int)).length=6 from rfl] at hsh;subst hsh;clear hev;refine ⟨_,rfl,?_⟩;go_frame;replace GR:=ι (GR.out.below hb);replace K:=ι (Rg.acc K.out hb);clear hb;have WR:=ι (RsO.mk hri);refine Rg.lm 3 (.tuple #[.slice ra 6 rcc,.int .i64 0]) ?_;go_frame
 refine Rg.lr 6 (exec_extract (v:=.slice ra 6 rcc) _ _ rfl rfl rfl) ?_;go_frame;refine Rg.lr 7 (exec_extract (v:=.int .i64 0) _ _ rfl rfl rfl) ?_;go_frame;refine Rg.la 1 (.slice ra 6 rcc) ?_;go_frame;refine Rg.la 2 (.int .i64 0) ?_;go_frame;clear hri GR;go_upto_region 2 with (fail);refine Rg.wl ?_;have hnew:=ints_new w2 3 [1,2] (by decide);refine Rg.lr 8 (exec_flat _ _ 2 _ rfl [1,2] Tryz.underlying26 szInt zInt rfl (by decide) (by decide) rfl) ?_;go_frame;have hb:=(Below.refl w2.heap.size w2).alloc (Nat.le_refl _) (.cells (([1,2]:List Int).map (Value.int .i64)).toArray 3);generalize w2.alloc (.cells (([1,2]:List Int).map (Value.int .i64)).toArray 3)=w3 at *;replace WR:=ι (WR.out.below hb);replace K:=ι (Rg.acc K.out hb);clear hb;have A1:=ι hnew;clear hnew;have hnew:=ints_new w3 3 [2,0,1] (by decide);refine Rg.lr 9 (exec_flat _ _ 3 _ rfl [2,0,1] Tryz.underlying30 szInt zInt rfl (by decide) (by decide) rfl) ?_;go_frame
 have hb:=(Below.refl w3.heap.size w3).alloc (Nat.le_refl _) (.cells (([2,0,1]:List Int).map (Value.int .i64)).toArray 3);generalize w3.alloc (.cells (([2,0,1]:List Int).map (Value.int .i64)).toArray 3)=w4 at *;replace WR:=ι (WR.out.below hb);replace A1:=ι (A1.out.below hb);replace K:=ι (Rg.acc K.out hb);clear hb;have A2:=ι hnew;clear hnew;refine Rg.lk 10 (exec_fn 27 _ _ _ rfl rfl rfl (Bncl4 _ _)) ?_;refine (evals_yes A1.out A2.out (by decide) (by unfold okW; decide) (by decide +kernel)).mono ?_;rintro e1 w5 ⟨rfl,hb⟩;refine ⟨_,rfl,?_⟩;go_frame;replace WR:=ι (WR.out.below hb);replace A1:=ι (A1.out.below hb);replace A2:=ι (A2.out.below hb);replace K:=ι (Rg.acc K.out hb);clear hb;refine Rg.lm 11 (.bool true) ?_;go_frame;have hnew:=ints_new w5 3 [2,1] (by decide);refine Rg.lW 12 (exec_flat _ _ 2 _ rfl [2,1] Tryz.underlying26 szInt zInt rfl (by decide) (by decide) rfl) ?_;go_frame
 have hb:=(Below.refl w5.heap.size w5).alloc (Nat.le_refl _) (.cells (([2,1]:List Int).map (Value.int .i64)).toArray 3);generalize w5.alloc (.cells (([2,1]:List Int).map (Value.int .i64)).toArray 3)=w6 at *;replace WR:=ι (WR.out.below hb);replace A1:=ι (A1.out.below hb);replace A2:=ι (A2.out.below hb);replace K:=ι (Rg.acc K.out hb);clear hb;have A3:=ι hnew;clear hnew;have hnew:=ints_new w6 3 [1,2,0] (by decide);refine Rg.lW 13 (exec_flat _ _ 3 _ rfl [1,2,0] Tryz.underlying30 szInt zInt rfl (by decide) (by decide) rfl) ?_;go_frame;have hb:=(Below.refl w6.heap.size w6).alloc (Nat.le_refl _) (.cells (([1,2,0]:List Int).map (Value.int .i64)).toArray 3);generalize w6.alloc (.cells (([1,2,0]:List Int).map (Value.int .i64)).toArray 3)=w7 at *;replace WR:=ι (WR.out.below hb);replace A1:=ι (A1.out.below hb);replace A2:=ι (A2.out.below hb);replace A3:=ι (A3.out.below hb)
 replace K:=ι (Rg.acc K.out hb);clear hb;have A4:=ι hnew;clear hnew;refine listW_ask (some 14) rfl rfl _ _ (exec_fn 27 _ _ _ rfl rfl rfl (Bncl4 _ _)) ?_;refine (evals_yes A3.out A4.out (by decide) (by unfold okW; decide) (by decide +kernel)).mono ?_;rintro e1 w8 ⟨rfl,hb⟩;refine ⟨_,rfl,?_⟩;go_frame;replace WR:=ι (WR.out.below hb);replace A1:=ι (A1.out.below hb);replace A2:=ι (A2.out.below hb);replace A3:=ι (A3.out.below hb);replace A4:=ι (A4.out.below hb);replace K:=ι (Rg.acc K.out hb);clear hb;refine Rg.lr 15 (exec_pickT (v:=.bool true) _ _ _ rfl rfl rfl) ?_;go_frame;refine Rg.lm 16 (.bool true) ?_;go_frame;refine Rg.lW 17 (Rg.xm (.int .i64 0) _ rfl rfl) ?_;go_frame;refine Rg.lW 18 (exec_eqI _ _ rfl rfl rfl rfl) ?_;go_frame;refine Rg.lr 19 (exec_pickT (v:=.bool true) _ _ _ rfl rfl rfl) ?_;go_frame;refine Rg.lm 20 (.bool true) ?_;go_frame;refine Rg.lW 21 (Rg.xm (.slice ra 6 rcc) _ rfl rfl) ?_;go_frame
 have hn0:NpI (w8.alloc (.cells #[] 3)) (.slice (some ⟨w8.heap.size,0,none⟩) 0 0) []:=NpI.mk (EX.nil (mb:=0) (fv:=.slice none 0 0) _).ints;refine Rg.lW 22 (Rg.exec_build0 slWord rfl w8) ?_;go_frame;have hb:=(Below.refl w8.heap.size w8).alloc (Nat.le_refl _) (.cells #[] 3);generalize w8.alloc (.cells #[] 3)=w9 at *;replace WR:=ι (WR.out.below hb);replace A1:=ι (A1.out.below hb);replace A2:=ι (A2.out.below hb);replace A3:=ι (A3.out.below hb);replace A4:=ι (A4.out.below hb);replace K:=ι (Rg.acc K.out hb);clear hb;have B0:=ι hn0;clear hn0;have hnew:=ints_new w9 3 [2] (by decide);refine Rg.lW 23 (exec_flat _ _ 1 _ rfl [2] Tryz.underlying26 szInt zInt rfl (by decide) (by decide) rfl) ?_;go_frame;have hb:=(Below.refl w9.heap.size w9).alloc (Nat.le_refl _) (.cells (([2]:List Int).map (Value.int .i64)).toArray 3);generalize w9.alloc (.cells (([2]:List Int).map (Value.int .i64)).toArray 3)=w10 at *
 replace WR:=ι (WR.out.below hb);replace A1:=ι (A1.out.below hb);replace A2:=ι (A2.out.below hb);replace A3:=ι (A3.out.below hb);replace A4:=ι (A4.out.below hb);replace B0:=ι (B0.out.below hb);replace K:=ι (Rg.acc K.out hb);clear hb;have B1:=ι hnew;clear hnew;have hnew:=ints_new w10 3 [1] (by decide);refine Rg.lW 24 (exec_flat _ _ 1 _ rfl [1] Tryz.underlying26 szInt zInt rfl (by decide) (by decide) rfl) ?_;go_frame;have hb:=(Below.refl w10.heap.size w10).alloc (Nat.le_refl _) (.cells (([1]:List Int).map (Value.int .i64)).toArray 3);generalize w10.alloc (.cells (([1]:List Int).map (Value.int .i64)).toArray 3)=w11 at *;replace WR:=ι (WR.out.below hb);replace A1:=ι (A1.out.below hb);replace A2:=ι (A2.out.below hb);replace A3:=ι (A3.out.below hb);replace A4:=ι (A4.out.below hb);replace B0:=ι (B0.out.below hb);replace B1:=ι (B1.out.below hb);replace K:=ι (Rg.acc K.out hb)
 clear hb;have B2:=ι hnew;clear hnew;have hnew:=ints_new w11 3 [2,1] (by decide);refine Rg.lW 25 (exec_flat _ _ 2 _ rfl [2,1] Tryz.underlying26 szInt zInt rfl (by decide) (by decide) rfl) ?_;go_frame;have hb:=(Below.refl w11.heap.size w11).alloc (Nat.le_refl _) (.cells (([2,1]:List Int).map (Value.int .i64)).toArray 3);generalize w11.alloc (.cells (([2,1]:List Int).map (Value.int .i64)).toArray 3)=w12 at *;replace WR:=ι (WR.out.below hb);replace A1:=ι (A1.out.below hb);replace A2:=ι (A2.out.below hb);replace A3:=ι (A3.out.below hb);replace A4:=ι (A4.out.below hb);replace B0:=ι (B0.out.below hb);replace B1:=ι (B1.out.below hb);replace B2:=ι (B2.out.below hb);replace K:=ι (Rg.acc K.out hb);clear hb;have B3:=ι hnew;clear hnew;have hnew:=ints_new w12 3 [1,2] (by decide);refine Rg.lW 26 (exec_flat _ _ 2 _ rfl [1,2] Tryz.underlying26 szInt zInt rfl (by decide) (by decide) rfl) ?_;go_frame
 have hb:=(Below.refl w12.heap.size w12).alloc (Nat.le_refl _) (.cells (([1,2]:List Int).map (Value.int .i64)).toArray 3);generalize w12.alloc (.cells (([1,2]:List Int).map (Value.int .i64)).toArray 3)=w13 at *;replace WR:=ι (WR.out.below hb);replace A1:=ι (A1.out.below hb);replace A2:=ι (A2.out.below hb);replace A3:=ι (A3.out.below hb);replace A4:=ι (A4.out.below hb);replace B0:=ι (B0.out.below hb);replace B1:=ι (B1.out.below hb);replace B2:=ι (B2.out.below hb);replace B3:=ι (B3.out.below hb);replace K:=ι (Rg.acc K.out hb);clear hb;have B4:=ι hnew;clear hnew;have hnew:=ints_new w13 3 [1,2,1] (by decide);refine Rg.lW 27 (exec_flat _ _ 3 _ rfl [1,2,1] Tryz.underlying26 szInt zInt rfl (by decide) (by decide) rfl) ?_;go_frame;have hb:=(Below.refl w13.heap.size w13).alloc (Nat.le_refl _) (.cells (([1,2,1]:List Int).map (Value.int .i64)).toArray 3);generalize w13.alloc (.cells (([1,2,1]:List Int).map (Value.int .i64)).toArray 3)=w14 at *
 replace WR:=ι (WR.out.below hb);replace A1:=ι (A1.out.below hb);replace A2:=ι (A2.out.below hb);replace A3:=ι (A3.out.below hb);replace A4:=ι (A4.out.below hb);replace B0:=ι (B0.out.below hb);replace B1:=ι (B1.out.below hb);replace B2:=ι (B2.out.below hb);replace B3:=ι (B3.out.below hb);replace B4:=ι (B4.out.below hb);replace K:=ι (Rg.acc K.out hb);clear hb;have B5:=ι hnew;clear hnew;have hr6:=rows6W B0.out (NpI.mk B1.out) (NpI.mk B2.out) (NpI.mk B3.out) (NpI.mk B4.out) (NpI.mk B5.out);refine Rg.lW 28 (exec_build6W (u1:=.slice (some ⟨w8.heap.size,0,none⟩) 0 0) (u2:=.slice (some ⟨w9.heap.size,0,none⟩) 1 1) (u3:=.slice (some ⟨w10.heap.size,0,none⟩) 1 1) (u4:=.slice (some ⟨w11.heap.size,0,none⟩) 2 2) (u5:=.slice (some ⟨w12.heap.size,0,none⟩) 2 2) (u6:=.slice (some ⟨w13.heap.size,0,none⟩) 3 3) _ _ _ _ _ _ rfl rfl rfl rfl rfl rfl rfl (run_build6W w14 _ _ _ _ _ _ ⟨_,_,_,rfl⟩ ⟨_,_,_,rfl⟩ ⟨_,_,_,rfl⟩ ⟨_,_,_,rfl⟩ ⟨_,_,_,rfl⟩ ⟨_,_,_,rfl⟩)) ?_;go_frame
 have hb:=(Below.refl w14.heap.size w14).alloc (Nat.le_refl _) (.cells #[.slice (some ⟨w8.heap.size,0,none⟩) 0 0,.slice (some ⟨w9.heap.size,0,none⟩) 1 1,.slice (some ⟨w10.heap.size,0,none⟩) 1 1,.slice (some ⟨w11.heap.size,0,none⟩) 2 2,.slice (some ⟨w12.heap.size,0,none⟩) 2 2,.slice (some ⟨w13.heap.size,0,none⟩) 3 3] 26);generalize w14.alloc (.cells #[.slice (some ⟨w8.heap.size,0,none⟩) 0 0,.slice (some ⟨w9.heap.size,0,none⟩) 1 1,.slice (some ⟨w10.heap.size,0,none⟩) 1 1,.slice (some ⟨w11.heap.size,0,none⟩) 2 2,.slice (some ⟨w12.heap.size,0,none⟩) 2 2,.slice (some ⟨w13.heap.size,0,none⟩) 3 3] 26)=w15 at *;replace WR:=ι (WR.out.below hb);replace A1:=ι (A1.out.below hb);replace A2:=ι (A2.out.below hb);replace A3:=ι (A3.out.below hb);replace A4:=ι (A4.out.below hb);replace B0:=ι (B0.out.below hb);replace B1:=ι (B1.out.below hb);replace B2:=ι (B2.out.below hb)
 replace B3:=ι (B3.out.below hb);replace B4:=ι (B4.out.below hb);replace B5:=ι (B5.out.below hb);replace K:=ι (Rg.acc K.out hb);clear hb;have R6:=ι (RsO.mk hr6);clear hr6;refine listW_ask (some 29) rfl rfl _ _ (exec_fn 24 _ _ _ rfl rfl rfl (Bncl5 _ _)) ?_;refine (sameWords_b (b:=true) WR.out.r R6.out.r (ι (decide_eq_true rfl))).mono ?_;rintro e1 w16 ⟨rfl,hb⟩;refine ⟨_,rfl,?_⟩;go_frame;replace WR:=ι (WR.out.below hb);replace A1:=ι (A1.out.below hb);replace A2:=ι (A2.out.below hb);replace A3:=ι (A3.out.below hb);replace A4:=ι (A4.out.below hb);replace B0:=ι (B0.out.below hb);replace B1:=ι (B1.out.below hb);replace B2:=ι (B2.out.below hb);replace B3:=ι (B3.out.below hb);replace B4:=ι (B4.out.below hb);replace B5:=ι (B5.out.below hb);replace R6:=ι (R6.out.below hb);replace K:=ι (Rg.acc K.out hb);clear hb;refine Rg.lr 30 (exec_pickT (v:=.bool true) _ _ _ rfl rfl rfl) ?_;go_frame
 refine Rg.la 0 (.bool true) ?_;go_frame;go_wp2;go_ret;exact ⟨rfl,K.out⟩
end Go.Proofs.YtdnmmibchbceeaaGreat

set_option linter.unusedVariables false
namespace Go.Proofs.YtdnmmibchbceeaaGreat
open Go.RowKit
open Go.Proofs
open Go.ChangeShapes Go.WideShapes Go.Deep Go.Joins
attribute [local irreducible] Go.Calls
section
variable {H:Type} {enc:TypeId × Value→H}
theorem readI {W:World} {base:Nat} {r:Reach} {v:Value} {d:DataW H} {p:List MemPlace} (h:DataW.Trod enc Tryz.prog W 0 (fun _=>true) true 25 v d p) (hv:∃ x,v.cells.toList=[x]∧v=x) :
  ∃ l,Rg.IntsB maxLen W v l:=by
 obtain ⟨fuel,hf⟩:=h;obtain ⟨x,hc,rfl⟩:=hv;rw [hc] at hf
 rcases open_ints Tryz.underlying25 Tryz.underlying3 cells3 hf with ⟨hcs,_⟩ | ⟨a,len,cap,zs,hcs,_,hl,hm,hz,_,hcell,_⟩
 ·obtain rfl:v=.slice none 0 0:=by simpa using hcs
  exact ⟨[],none,0,rfl,by simp,Nat.zero_le _,by simp,fun h=>by simp at h⟩
 ·obtain rfl:v=.slice (some a) len cap:=by simpa using hcs
  simp only [if_true] at hz
  have hlen:(zs.take len).length=len:=by rw [List.length_take]; omega
  refine ⟨zs.take len,some a,cap,by rw [List.length_map,hlen],by rw [List.length_map,hlen]; exact hl,hm,by rw [List.length_map,hlen]; omega,fun h0=>?_⟩;rw [List.length_map,hlen] at h0;have hc0:=hcell 0 (by omega)
  have ha:a=⟨a.block,a.off,none⟩:=by
   have:=spot_none (a:=a) (by simpa [Addr.add] using hc0)
   cases a; simp at this; subst this; rfl
  refine ⟨a.block,a.off,by rw [← ha],lt_of_cell (a:=a) (by simpa [Addr.add] using hc0),fun i hi=>?_⟩;rw [List.length_map,hlen] at hi;rw [← add_none ha i,hcell i (by omega)];simp [List.getD,List.getElem?_eq_getElem (show i<zs.length by omega)]
end
end Go.Proofs.YtdnmmibchbceeaaGreat

namespace Go.Proofs.YtdnmmibchbceeaaGreat
open Go.RowKit
open Go.Proofs
open Go.Proofs.Ob
open Go.Proofs.Cm (Gd Gr IsChain ap)
attribute [local irreducible] Go.Calls Go.wpList
abbrev Stp:=Int × Int × Int
abbrev rnIn (T:List (List Nat)) (i:Int):Prop:=0≤i∧i<(T.length:Int)
def rnC (T:List (List Nat)) (s:Stp):Int :=
 if s.1≠1∧s.1≠2 then 3 else if ¬ rnIn T s.2.1 then 2 else if s.1=1∧¬ rnIn T s.2.2 then 2 else 0
def rnE (T:List (List Nat)) (s:Stp):List Nat:=if s.1=1 then Ma.mulN (T.getD s.2.1.toNat []) (T.getD s.2.2.toNat []) else Ma.invN (T.getD s.2.1.toNat [])
def rn:List Stp→List (List Nat)→Int × List (List Nat)
 | [],T=>(0,T)
 | s :: l,T=>if rnC T s≠0 then (rnC T s,T) else rn l (T++[rnE T s])
theorem rn_bad {s:Stp} {l:List Stp} {T:List (List Nat)} (h:rnC T s≠0):rn (s :: l) T=(rnC T s,T):=by rw [rn,if_pos h]
theorem rn_ok {s:Stp} {l:List Stp} {T:List (List Nat)} (h:rnC T s=0):rn (s :: l) T=rn l (T++[rnE T s]):=by rw [rn,if_neg (fun e=>e h)]
theorem rnC_3 {T:List (List Nat)} {s:Stp} (h1:s.1≠1) (h2:s.1≠2):rnC T s=3:=by unfold rnC; rw [if_pos ⟨h1,h2⟩]
theorem rnC_a {T:List (List Nat)} {s:Stp} (h:s.1=1∨s.1=2) (h2:¬ rnIn T s.2.1):rnC T s=2:=by
 unfold rnC; rw [if_neg (fun e=>h.elim e.1 e.2),if_pos h2]
theorem rnC_b {T:List (List Nat)} {s:Stp} (h:s.1=1) (h2:¬ rnIn T s.2.2):rnC T s=2:=by
 by_cases h3:rnIn T s.2.1
 ·unfold rnC; rw [if_neg (fun e=>e.1 h),if_neg (fun e=>e h3),if_pos ⟨h,h2⟩]
 ·exact rnC_a (.inl h) h3
theorem rnC_m {T:List (List Nat)} {s:Stp} (h:s.1=1) (h1:rnIn T s.2.1) (h2:rnIn T s.2.2):rnC T s=0:=by
 unfold rnC; rw [if_neg (fun e=>e.1 h),if_neg (fun e=>e h1),if_neg (fun e=>e.2 h2)]
theorem rnC_i {T:List (List Nat)} {s:Stp} (h:s.1=2) (h1:rnIn T s.2.1):rnC T s=0:=by
 unfold rnC; rw [if_neg (fun e=>e.2 h),if_neg (fun e=>e h1),if_neg (fun e=>by omega)]
theorem rnE_m {T:List (List Nat)} {s:Stp} {x y:List Nat} (h:s.1=1) (hx:T[s.2.1.toNat]?=some x) (hy:T[s.2.2.toNat]?=some y):rnE T s=Ma.mulN x y:=by
 unfold rnE; rw [if_pos h,List.getD_eq_getElem?_getD,List.getD_eq_getElem?_getD,hx,hy]; rfl
theorem rnE_i {T:List (List Nat)} {s:Stp} {x:List Nat} (h:s.1=2) (hx:T[s.2.1.toNat]?=some x):rnE T s=Ma.invN x:=by
 unfold rnE; rw [if_neg (by omega),List.getD_eq_getElem?_getD,hx]; rfl
def RnV (d:Int) (ll:List (List Int)) (S:List Stp) (l:List Int) (c:Int):Prop :=
 (Ma.gchk d ll≠0∧c=Ma.gchk d ll∧l=[])∨(Ma.gchk d ll=0∧5000<S.length∧c=4∧l=[]) ∨
 (Ma.gchk d ll=0∧S.length≤5000∧∃ (N:Nat) (gs:List (List Nat)),d=N∧ll=gs.map Ma.ofN∧c=(rn S gs).1 ∧
  ((c≠0∧l=[])∨(c=0∧l=Ma.ofN (if S.length=0 then Ma.oneN N else (rn S gs).2.getD ((rn S gs).2.length - 1) []))))
theorem rn_same {d:Int} {ll:List (List Int)} {S:List Stp} {l l':List Int} {c c':Int} {N N':Nat} {gs gs':List (List Nat)} (e1:d=N) (e2:ll=gs.map Ma.ofN) (f1:d=N') (f2:ll=gs'.map Ma.ofN) (a1:c=(rn S gs).1) (b1:c'=(rn S gs').1)
  (a2:(c≠0∧l=[])∨(c=0∧l=Ma.ofN (if S.length=0 then Ma.oneN N else (rn S gs).2.getD ((rn S gs).2.length - 1) []))) (b2:(c'≠0∧l'=[])∨(c'=0∧l'=Ma.ofN (if S.length=0 then Ma.oneN N' else (rn S gs').2.getD ((rn S gs').2.length - 1) []))):l=l'∧c=c':=by
 obtain rfl:N=N':=by omega
 have:=map_ofN_inj (e2.symm.trans f2);subst this;have hc:=a1.trans b1.symm;subst hc;refine ⟨?_,rfl⟩
 rcases a2 with ⟨h0,a2⟩ | ⟨h0,a2⟩ <;> rcases b2 with ⟨g0,b2⟩ | ⟨g0,b2⟩
 ·exact a2.trans b2.symm
 ·exact absurd g0 h0
 ·exact absurd h0 g0
 ·exact a2.trans b2.symm
theorem RnV.uniq {d:Int} {ll:List (List Int)} {S:List Stp} {l l':List Int} {c c':Int} (h:RnV d ll S l c) (h':RnV d ll S l' c'):l=l'∧c=c':=by
 rcases h with ⟨a0,a1,a2⟩ | ⟨a0,a3,a1,a2⟩ | ⟨a0,a3,N,gs,e1,e2,a1,a2⟩ <;> rcases h' with ⟨b0,b1,b2⟩ | ⟨b0,b3,b1,b2⟩ | ⟨b0,b3,N',gs',f1,f2,b1,b2⟩ <;>
  first
  | exact absurd b0 a0
  | exact absurd a0 b0
  | omega
  | exact ⟨a2.trans b2.symm,a1.trans b1.symm⟩
  | exact rn_same e1 e2 f1 f2 a1 b1 a2 b2
structure StA (w:World) (v:Value) (S:List Stp):Prop where
 st:∃ a cap,v=.slice a S.length cap∧(0<S.length→∃ b o,a=some ⟨b,o,none⟩∧b<w.heap.size∧∀ i (h:i<S.length),w.cell? ⟨b,o+i*3,none⟩=some (.int .i64 S[i].1)∧w.cell? ⟨b,o+i*3+1,none⟩=some (.int .i64 S[i].2.1)∧w.cell? ⟨b,o+i*3+2,none⟩=some (.int .i64 S[i].2.2))
theorem StA.below {w w':World} {v:Value} {S:List Stp} (h:StA w v S) (hb:Below w.heap.size w w'):StA w' v S:=by
 obtain ⟨a,cap,e,h2⟩:=h.st;refine ⟨a,cap,e,fun h0=>?_⟩;obtain ⟨b,o,e2,hlt,hc⟩:=h2 h0;exact ⟨b,o,e2,Nat.lt_of_lt_of_le hlt hb.size,fun i hi=>⟨(hb.cell (p:=⟨b,o+i*3,none⟩) hlt).trans (hc i hi).1,(hb.cell (p:=⟨b,o+i*3+1,none⟩) hlt).trans (hc i hi).2.1,(hb.cell (p:=⟨b,o+i*3+2,none⟩) hlt).trans (hc i hi).2.2⟩⟩
theorem infoSt:(Tryz.prog.info? 51).map (fun i=>(i.zero,i.size,i.bytes))=some (some (.agg #[.int .i64 0,.int .i64 0,.int .i64 0]),3,24):=by kernel_rfl
theorem szStp:(Tryz.prog.info? 51).map (·.size)=some 3:=by kernel_rfl
theorem run_loadSt {w:World} {b o:Nat} {x y z:Value} (h0:w.cell? ⟨b,o,none⟩=some x) (h1:w.cell? ⟨b,o+1,none⟩=some y) (h2:w.cell? ⟨b,o+2,none⟩=some z):(loadVar 51 ⟨b,o,none⟩).run Tryz.prog w=.ok (.agg #[x,y,z]) w:=by
 obtain ⟨i0,hi,hz0,hz1,hz2⟩:=info_parts infoSt
 have ha0:(⟨b,o,none⟩:Addr).add 0=⟨b,o,none⟩:=by simp [Addr.add]
 have ha1:(⟨b,o,none⟩:Addr).add 1=⟨b,o+1,none⟩:=by simp [Addr.add]
 have ha2:(⟨b,o,none⟩:Addr).add 2=⟨b,o+2,none⟩:=by simp [Addr.add]
 have hg:(isAgg 51).run Tryz.prog w=.ok true w:=by kernel_rfl
 simp [loadVar,hg,sizeOf,typeInfo,hi,hz1,loadCells,loadCellsFrom,load,ha0,ha1,ha2];simp [Sem.run,h0,h1,h2]
theorem TriS.new (w:World) (x y z:Value):Tri (w.alloc (.cells #[x,y,z] 51)) w.heap.size x y z :=
 ⟨by rw [Rg.cellNew]; rfl,by rw [Rg.cellNew]; rfl,by rw [Rg.cellNew]; rfl,frozenNewN _ _ _ 0 _,frozenNewN _ _ _ 0 _,frozenNewN _ _ _ 0 _,by simp⟩
theorem run_storeSt {w:World} {b:Nat} {u1 u2 u3:Value} (x y z:Int) (h:Tri w b u1 u2 u3) :
  (storeVar 51 ⟨b,0,none⟩ (.agg #[.int .i64 x,.int .i64 y,.int .i64 z])).run Tryz.prog w=.ok () (((w.setCell ⟨b,0,none⟩ (.int .i64 x)).setCell ⟨b,1,none⟩ (.int .i64 y)).setCell ⟨b,2,none⟩ (.int .i64 z)):=by
 obtain ⟨i0,hi,hz0,hz1,hz2⟩:=info_parts infoSt
 have g2:(w.setCell ⟨b,0,none⟩ (.int .i64 x)).cell? ⟨b,1,none⟩=some u2:=by
  rw [World.cell?_setCell_other (h:=by intro e; injection e with e1 e2; omega) ..]
  exact h.c1
 have gf:(w.setCell ⟨b,0,none⟩ (.int .i64 x)).frozen? ⟨b,1,none⟩=false:=by rw [World.frozen?_setCell]; exact h.f1
 have g3:((w.setCell ⟨b,0,none⟩ (.int .i64 x)).setCell ⟨b,1,none⟩ (.int .i64 y)).cell? ⟨b,2,none⟩=some u3:=by
  rw [World.cell?_setCell_other (h:=by intro e; injection e with e1 e2; omega) ..,World.cell?_setCell_other (h:=by intro e; injection e with e1 e2; omega) ..]
  exact h.c2
 have gf3:((w.setCell ⟨b,0,none⟩ (.int .i64 x)).setCell ⟨b,1,none⟩ (.int .i64 y)).frozen? ⟨b,2,none⟩=false:=by rw [World.frozen?_setCell,World.frozen?_setCell]; exact h.f2
 have ha0:(⟨b,0,none⟩:Addr).add 0=⟨b,0,none⟩:=by simp [Addr.add]
 have ha1:(⟨b,0,none⟩:Addr).add 1=⟨b,1,none⟩:=by simp [Addr.add]
 have ha2:(⟨b,0,none⟩:Addr).add 2=⟨b,2,none⟩:=by simp [Addr.add]
 simp [storeVar,sizeOf,typeInfo,hi,hz1,Value.cells,storeCells,store,ha0,ha1,ha2];simp [Sem.run,h.c0,h.f0,g2,gf,g3,gf3]
theorem exec_allocSt {o:Oper} {a:Act} {w:World} (ho:o.op=.alloc 51):(execOp a.eval o).run Tryz.prog w=.ok (.value (.pointer (some ⟨w.heap.size,0,none⟩))) (w.alloc (.cells #[.int .i64 0,.int .i64 0,.int .i64 0] 51)):=by
 obtain ⟨i0,hi,hz0,hz1,hz2⟩:=info_parts infoSt;unfold execOp;simp [ho,Instr.alloc,typeInfo,zeroValue,hi,hz0,newVar,Value.cells,Result.andThen]
 try rfl
theorem boxSt (W:World) (x y z:Int):∃ X,(storeVar 51 ⟨W.heap.size,0,none⟩ (.agg #[.int .i64 x,.int .i64 y,.int .i64 z])).run Tryz.prog (W.alloc (.cells #[.int .i64 0,.int .i64 0,.int .i64 0] 51))=.ok () X∧CL X W.heap.size 0 (.int .i64 x)∧CL X W.heap.size 1 (.int .i64 y)∧CL X W.heap.size 2 (.int .i64 z)∧Below W.heap.size W X:=by
 have ht:=TriS.new W (.int .i64 0) (.int .i64 0) (.int .i64 0);have hs:=ht.set (.int .i64 x) (.int .i64 y) (.int .i64 z);exact ⟨_,run_storeSt x y z ht,⟨hs.c0,hs.lt⟩,⟨hs.c1,hs.lt⟩,⟨hs.c2,hs.lt⟩,((((Below.refl _ _).alloc (Nat.le_refl _) _).setCell (p:=⟨W.heap.size,0,none⟩) (Nat.le_refl _) _).setCell (p:=⟨W.heap.size,1,none⟩) (Nat.le_refl _) _).setCell (p:=⟨W.heap.size,2,none⟩) (Nat.le_refl _) _⟩
structure RnM (B:Nat) (W:World) (cb:Nat) (fv:Value) (T:List (List Nat)):Prop where
 row:∃ us,W.ownsRow B 30 1 fv T.length us∧Rg.FElts (GF W cb fv) W us (T.map Ma.ofN)
 off:fv.ownBlock≠some cb
 sz:B≤W.heap.size
theorem RnM.below {B:Nat} {W W':World} {cb:Nat} {fv:Value} {T:List (List Nat)} (h:RnM B W cb fv T) (hb:Below W.heap.size W W'):RnM B W' cb fv T:=by
 obtain ⟨us,h1,h2⟩:=h.row;exact ⟨⟨us,Rg.row_below h1 hb,(h2.kp (M:=fun _=>False) (Rg.Kp.of_below hb) (fun _ _=>id)).mono fun k g=>g.up hb.size⟩,h.off,Nat.le_trans h.sz hb.size⟩
theorem RnM.shape {B:Nat} {W:World} {cb:Nat} {fv:Value} {T:List (List Nat)} (h:RnM B W cb fv T):∃ a c,fv=.slice a T.length c:=by
 obtain ⟨us,h1,h2⟩:=h.row;exact Rg.row_shape h1
theorem RnM.lt1 {B:Nat} {W:World} {cb:Nat} {fv:Value} {T:List (List Nat)} (h:RnM B W cb fv T):∀ k,fv.ownBlock=some k→B≤k∧k<W.heap.size:=fun k e=>by
 obtain ⟨us,h1,h2⟩:=h.row;exact h1.lt k e
theorem RnM.at {B:Nat} {W:World} {cb:Nat} {fv:Value} {T:List (List Nat)} (h:RnM B W cb fv T) (hl:T.length≤1000000) {i:Nat} {x:List Nat} (hi:i<T.length) (hx:T[i]?=some x) :
  ∃ b o c u,fv=.slice (some ⟨b,o,none⟩) T.length c∧CL W b (o+i) u∧EX W cb fv u (Ma.ofN x):=by
 obtain ⟨us,h1,h2⟩:=h.row;obtain ⟨a,c,e,h3,h4,h5,h6⟩:=Rg.Vals.of_row h1 (by omega)
 have hul:us.length=T.length:=by have:=h2.1; simpa using this
 obtain ⟨b,o,e1,e2,e3⟩:=h6 (by omega)
 have hiu:i<us.length:=by omega
 refine ⟨b,o,c,us[i],by rw [e,e1,hul],⟨e3 i hiu,e2⟩,⟨?_⟩⟩;have:=h2.2 i hiu (by simpa using hi);rw [List.getElem_map] at this;rw [List.getElem?_eq_getElem hi] at hx
 injection hx with hx
 rw [← hx]; exact this
theorem RnM.push {B:Nat} {W:World} {cb:Nat} {fv:Value} {T:List (List Nat)} (h:RnM B W cb fv T) (hcb:cb<W.heap.size) {x:List Nat} {u:Value} (hu:EX W cb fv u (Ma.ofN x)) (hs:∃ a m c,u=.slice a m c) (hn:T.length<1000000) (ty:TypeId) :
  ∃ a c X,(Builtin.append_ #[22,22] ty #[fv,.slice (some ⟨W.heap.size,0,none⟩) 1 1]).run Tryz.prog (W.alloc (.cells #[u] 30))=.ok (.slice a (T.length+1) c) X∧RnM B X cb (.slice a (T.length+1) c) (T++[x])∧Rg.Kp (fun k=>fv.ownBlock=some k) W X:=by
 obtain ⟨us,h1,h2⟩:=h.row;obtain ⟨a0,m0,c0,rfl⟩:=hs;have hb:Below W.heap.size W (W.alloc (.cells #[.slice a0 m0 c0] 30)):=(Below.refl _ _).alloc (Nat.le_refl _) _;obtain ⟨v',X,r1,r2,r3,r4,a,c,rfl⟩:=app_run (P:=Tryz.prog) slPerms ty (Rg.row_below h1 hb) (Nat.le_trans h.sz hb.size) W.heap.size 1 (u:=.slice a0 m0 c0) (by rw [Rg.cellNew]; rfl) rfl hn;have hk:Rg.Kp (fun k=>fv.ownBlock=some k) W X:=Rg.Kp.trans (M:=fun k=>fv.ownBlock=some k) ((Rg.Kp.of_below hb).weak fun _=>False.elim) (Rg.Kp.of_grown r3 fun _ e=>e) (fun _ _ e=>e)
 have e2:(W.alloc (.cells #[.slice a0 m0 c0] 30)).heap.size=W.heap.size+1:=by simp
 have hmono:∀ k,GF W cb fv k→GF X cb (.slice a (T.length+1) c) k:=fun k g=>by
  refine ⟨Nat.lt_of_lt_of_le g.1 hk.size,g.2.1,fun e=>?_⟩
  rcases r4 with r4 | r4
  ·exact g.2.2 (by rw [← r4]; exact e)
  ·rw [r4] at e
   injection e with e
   have:=g.1;omega
 have hmb:(Value.slice a (T.length+1) c).ownBlock≠some cb:=fun e=>by
  rcases r4 with r4 | r4
  ·exact h.off (by rw [← r4]; exact e)
  ·rw [r4] at e
   injection e with e
   omega
 exact ⟨a,c,X,r1,⟨⟨us++[.slice a0 m0 c0],by rw [List.length_append]; exact r2,by rw [List.map_append]; exact (FElts.snoc (h2.kp hk (fun k g e=>g.2.2 e)) (Rg.FI.kp hu.fi hk (fun k g e=>g.2.2 e))).mono hmono⟩,hmb,Nat.le_trans h.sz hk.size⟩,hk⟩
theorem RnM.set {B:Nat} {W:World} {cb:Nat} {fv:Value} {T:List (List Nat)} (h:RnM B W cb fv T) (y:Value):RnM B (W.setCell ⟨cb,0,none⟩ y) cb fv T:=by
 obtain ⟨us,h1,h2⟩:=h.row;have hk:Rg.Kp (fun k=>k=cb) W (W.setCell ⟨cb,0,none⟩ y):=Rg.Kp.of_setCell rfl;exact ⟨⟨us,rowKp h1 hk (fun k e e2=>h.off (by rw [e2,e])),(h2.kp hk (fun k g e=>g.2.1 e)).mono fun k g=>g.up hk.size⟩,h.off,Nat.le_trans h.sz hk.size⟩
end Go.Proofs.YtdnmmibchbceeaaGreat

namespace Go.Proofs.YtdnmmibchbceeaaGreat
open Go.RowKit
open Go.Proofs
open Go.Proofs.Ob
open Go.Proofs.Cm (Gd Gr IsChain ap)
theorem fold_new {x:List Nat} {wd:List Int}:∀ (l:List (List Nat × Int)) (st:BSt),∀ y∈l,Ma.mulN x y.1∈(l.foldl (bfStep x wd) st).1
 | [],st,y,hy=>by simp at hy
 | z :: l,st,y,hy=>by
  rcases List.mem_cons.1 hy with hy | hy
  ·subst hy
   have h1:Ma.mulN x y.1∈(bfStep x wd st y).1:=by
    unfold bfStep
    split
    ·assumption
    ·exact List.mem_append_right _ (List.mem_singleton.2 rfl)
   exact (Ext.fold x wd l _).1.subset h1
  ·exact fold_new l _ y hy
theorem bfs_step_ext (ml:List (List Nat × Int)) (N i:Nat):Ext (bfs ml N i) (bfs ml N (i+1)):=by
 show Ext _ (if i<(bfs ml N i).1.length then bfRow ml (bfs ml N i) i else bfs ml N i)
 split
 ·exact Ext.fold _ _ _ _
 ·exact Ext.refl _
theorem bfs_closed (ml:List (List Nat × Int)) (N:Nat):∀ (i j:Nat) (x:List Nat),j<i→(bfs ml N i).1[j]?=some x→∀ y∈ml,Ma.mulN x y.1∈(bfs ml N i).1
 | 0,j,x,hj,_,_,_=>absurd hj (Nat.not_lt_zero _)
 | i+1,j,x,hj,hx,y,hy=>by
  obtain ⟨t,ht⟩:=(bfs_step_ext ml N i).1
  by_cases h:i<(bfs ml N i).1.length
  ·by_cases e:j=i
   ·subst e
    have hx2:(bfs ml N j).1.getD j []=x:=by
     rw [← ht,List.getElem?_append_left h,List.getElem?_eq_getElem h] at hx;rw [List.getD_eq_getElem?_getD,List.getElem?_eq_getElem h];exact Option.some.inj hx
    have e3:bfs ml N (j+1)=bfRow ml (bfs ml N j) j:=by
     show (if j<(bfs ml N j).1.length then bfRow ml (bfs ml N j) j else bfs ml N j)=_;rw [if_pos h]
    rw [e3];unfold bfRow;rw [hx2];exact fold_new ml _ y hy
   ·have hji:j<i:=by omega
    have hx2:(bfs ml N i).1[j]?=some x:=by
     rw [← ht,List.getElem?_append_left (by omega)] at hx;exact hx
    have:=bfs_closed ml N i j x hji hx2 y hy;rw [← ht];exact List.mem_append_left _ this
  ·have e3:bfs ml N (i+1)=bfs ml N i:=by
    show (if i<(bfs ml N i).1.length then bfRow ml (bfs ml N i) i else bfs ml N i)=_;rw [if_neg h]
   rw [e3] at hx ⊢;have hj2:j<(bfs ml N i).1.length:=(List.getElem?_eq_some_iff.1 hx).1;exact bfs_closed ml N i j x (by omega) hx y hy
theorem BfE.closed {ml:List (List Nat × Int)} {N:Nat} {st:BSt} (h:BfE ml N st) {x:List Nat} (hx:x∈st.1) {y:List Nat × Int} (hy:y∈ml):Ma.mulN x y.1∈st.1:=by
 obtain ⟨i,rfl,hi⟩:=h;obtain ⟨j,hj,e⟩:=List.getElem_of_mem hx;exact bfs_closed ml N i j x (by omega) (by rw [List.getElem?_eq_getElem hj,e]) y hy
theorem BfE.one {ml:List (List Nat × Int)} {N:Nat} {st:BSt} (h:BfE ml N st):Ma.oneN N∈st.1:=by
 obtain ⟨i,rfl,h2⟩:=h;clear h2
 induction i with
 | zero=>exact List.mem_singleton.2 rfl
 | succ i ih=>exact (bfs_step_ext ml N i).1.subset ih
theorem mlets_at {gs:List (List Nat)} {s:List Nat} (hs:s∈gs):(∃ z,(s,z)∈mlets gs)∧∃ z,(Ma.invN s,z)∈mlets gs:=by
 have h1:s∈(mlets gs).map (·.1):=by
  rw [mlets_fst]; exact List.mem_flatMap.2 ⟨s,hs,by simp⟩
 have h2:Ma.invN s∈(mlets gs).map (·.1):=by
  rw [mlets_fst]; exact List.mem_flatMap.2 ⟨s,hs,by simp⟩
 obtain ⟨p,hp,e⟩:=List.mem_map.1 h1;obtain ⟨q,hq,e2⟩:=List.mem_map.1 h2;exact ⟨⟨p.2,by rw [← e]; exact hp⟩,⟨q.2,by rw [← e2]; exact hq⟩⟩
theorem inv_unique {n:Nat} {x y:List Nat} (hx:Gd n x) (hy:Gd n y) (h:Ma.mulN x y=Ma.oneN n):Ma.invN x=y:=by
 rw [← Cm.mul_one (Cm.gd_inv hx),← h,← Cm.mul_assoc (Cm.gd_inv hx) hx,Cm.inv_mul hx,Cm.one_mul hy]
theorem inv_twice {n:Nat} {x:List Nat} (hx:Gd n x):Ma.invN (Ma.invN x)=x:=inv_unique (Cm.gd_inv hx) hx (Cm.inv_mul hx)
theorem inv_prod {n:Nat} {a b:List Nat} (ha:Gd n a) (hb:Gd n b):Ma.invN (Ma.mulN a b)=Ma.mulN (Ma.invN b) (Ma.invN a):=by
 refine inv_unique (Cm.gd_mul ha hb) (Cm.gd_mul (Cm.gd_inv hb) (Cm.gd_inv ha)) ?_;rw [← Cm.mul_assoc (Cm.gd_mul ha hb) (Cm.gd_inv hb),Cm.mul_cancel_inv ha hb,Cm.mul_inv ha]
theorem BfE.all {N:Nat} {gs:List (List Nat)} (hg:∀ s∈gs,Gd N s) {st:BSt} (h:BfE (mlets gs) N st) {x:List Nat} (hx:Cm.Gr N (·∈gs) x):x∈st.1:=by
 have hb:BI N st:=by obtain ⟨i,rfl,_⟩:=h; exact bfs_BI (mlets_gd hg) i
 have key:(∀ y∈st.1,Ma.mulN y x∈st.1)∧(∀ y∈st.1,Ma.mulN y (Ma.invN x)∈st.1):=by
  induction hx with
  | one =>
   have e:Ma.invN (Ma.oneN N)=Ma.oneN N:=Cm.inv_one N;refine ⟨fun y hy=>?_,fun y hy=>?_⟩
   ·rw [Cm.mul_one (hb.gd y hy)]; exact hy
   ·rw [e,Cm.mul_one (hb.gd y hy)]; exact hy
  | gen s hs =>
   obtain ⟨⟨z1,h1⟩,⟨z2,h2⟩⟩:=mlets_at hs;exact ⟨fun y hy=>h.closed hy h1,fun y hy=>h.closed hy h2⟩
  | mul a b ha hbb iha ihb =>
   have ga:=(Cm.Gr.isG hg).gd _ ha;have gb:=(Cm.Gr.isG hg).gd _ hbb;refine ⟨fun y hy=>?_,fun y hy=>?_⟩
   ·rw [← Cm.mul_assoc (hb.gd y hy) ga]; exact ihb.1 _ (iha.1 y hy)
   ·rw [inv_prod ga gb,← Cm.mul_assoc (hb.gd y hy) (Cm.gd_inv gb)]
    exact iha.2 _ (ihb.2 y hy)
  | inv a ha iha =>
   have ga:=(Cm.Gr.isG hg).gd _ ha;exact ⟨iha.2,fun y hy=>by rw [inv_twice ga]; exact iha.1 y hy⟩
 have:=key.1 _ h.one
 rwa [Cm.one_mul ((Cm.Gr.isG hg).gd _ hx)] at this
end Go.Proofs.YtdnmmibchbceeaaGreat

namespace Go.Proofs.YtdnmmibchbceeaaGreat
open Go.RowKit
open Go.Proofs
open Go.Proofs.Ob
open Go.Proofs.Cm (Tr TabOk Gr Gd Sd idT sfP Fx ap IsChain IsG IsTr St setT)
theorem rn_snoc:∀ {S:List Stp} {gs T:List (List Nat)} {s:Stp},rn S gs=(0,T)→rnC T s=0→rn (S++[s]) gs=(0,T++[rnE T s])
 | [],gs,T,s,h,hc=>by
  have h:((0:Int),gs)=(0,T):=h
  injection h with _ h; subst h
  rw [List.nil_append,rn_ok hc]; rfl
 | a :: S,gs,T,s,h,hc=>by
  by_cases h0:rnC gs a=0
  ·rw [rn_ok h0] at h
   rw [List.cons_append,rn_ok h0];exact rn_snoc h hc
  ·rw [rn_bad h0] at h
   injection h with h1 h2
   exact absurd h1 h0
theorem rn_len:∀ {S:List Stp} {gs T:List (List Nat)},rn S gs=(0,T)→T.length=gs.length+S.length
 | [],gs,T,h=>by
  have h:((0:Int),gs)=(0,T):=h
  injection h with _ h; subst h; rfl
 | a :: S,gs,T,h=>by
  by_cases h0:rnC gs a=0
  ·rw [rn_ok h0] at h
   have:=rn_len h;simp at this ⊢; omega
  ·rw [rn_bad h0] at h
   injection h with h1 h2
   exact absurd h1 h0
structure Mk (N:Nat) (gs:List (List Nat)) (S:List Stp) (T:List (List Nat)):Prop where
 run:rn S gs=(0,T)
 gd:∀ y∈T,Gd N y
theorem Mk.len {N:Nat} {gs:List (List Nat)} {S:List Stp} {T:List (List Nat)} (h:Mk N gs S T):T.length=gs.length+S.length:=rn_len h.run
theorem Mk.start {N:Nat} {gs:List (List Nat)} (h:∀ s∈gs,Gd N s):Mk N gs [] gs:=⟨rfl,h⟩
theorem Mk.at {N:Nat} {gs:List (List Nat)} {S:List Stp} {T:List (List Nat)} (h:Mk N gs S T) {k:Nat} {x:List Nat} (hx:T[k]?=some x):Gd N x:=h.gd x (List.mem_of_getElem? hx)
theorem rnIn_of {T:List (List Nat)} {k:Nat} {x:List Nat} (hx:T[k]?=some x):rnIn T ((k:Nat):Int):=⟨by omega,by have:=(List.getElem?_eq_some_iff.1 hx).1; omega⟩
theorem Mk.mul {N:Nat} {gs:List (List Nat)} {S:List Stp} {T:List (List Nat)} (h:Mk N gs S T) {a b:Nat} {x y:List Nat} (hx:T[a]?=some x) (hy:T[b]?=some y) :
  Mk N gs (S++[((1:Int),((a:Nat):Int),((b:Nat):Int))]) (T++[Ma.mulN x y]):=by
 have hc:rnC T ((1:Int),((a:Nat):Int),((b:Nat):Int))=0:=rnC_m rfl (rnIn_of hx) (rnIn_of hy);have he:rnE T ((1:Int),((a:Nat):Int),((b:Nat):Int))=Ma.mulN x y:=rnE_m rfl hx hy;refine ⟨by rw [rn_snoc h.run hc,he],fun z hz=>?_⟩
 rcases List.mem_append.1 hz with hz | hz
 ·exact h.gd z hz
 ·rw [List.mem_singleton] at hz; rw [hz]; exact Cm.gd_mul (h.at hx) (h.at hy)
theorem Mk.inv {N:Nat} {gs:List (List Nat)} {S:List Stp} {T:List (List Nat)} (h:Mk N gs S T) {a:Nat} {x:List Nat} (hx:T[a]?=some x) :
  Mk N gs (S++[((2:Int),((a:Nat):Int),(0:Int))]) (T++[Ma.invN x]):=by
 have hc:rnC T ((2:Int),((a:Nat):Int),(0:Int))=0:=rnC_i rfl (rnIn_of hx);have he:rnE T ((2:Int),((a:Nat):Int),(0:Int))=Ma.invN x:=rnE_i rfl hx;refine ⟨by rw [rn_snoc h.run hc,he],fun z hz=>?_⟩
 rcases List.mem_append.1 hz with hz | hz
 ·exact h.gd z hz
 ·rw [List.mem_singleton] at hz; rw [hz]; exact Cm.gd_inv (h.at hx)
theorem pre_at {T T':List (List Nat)} (h:T <+: T') {k:Nat} {x:List Nat} (hx:T[k]?=some x):T'[k]?=some x:=by
 obtain ⟨t,rfl⟩:=h;rw [List.getElem?_append_left (List.getElem?_eq_some_iff.1 hx).1]; exact hx
theorem at_last {T:List (List Nat)} (x:List Nat):(T++[x])[T.length]?=some x:=by
 rw [List.getElem?_append_right (Nat.le_refl _),Nat.sub_self]; rfl
structure En where
 b:Nat
 i:Nat
 p:Nat
 x:List Nat
 at_:Nat
 by_:Int
structure EnOk (N:Nat) (T:List (List Nat)) (e:En):Prop where
 gd:Gd N e.x
 fx:Fx e.i e.x
 ap_:ap e.x e.i=e.p
 lt:e.i<N
 ne:e.p≠e.i
 at_:T[e.at_]?=some e.x
 by_:e.by_ = -1∨∃ k:Nat,e.by_=((k:Nat):Int)∧T[k]?=some (Ma.invN e.x)
theorem EnOk.mono {N:Nat} {T T':List (List Nat)} {e:En} (h:EnOk N T e) (hT:T <+: T'):EnOk N T' e :=
 ⟨h.gd,h.fx,h.ap_,h.lt,h.ne,pre_at hT h.at_,h.by_.imp id fun ⟨k,h1,h2⟩=>⟨k,h1,pre_at hT h2⟩⟩
def fnd (es:List En) (i p:Nat):Option En:=es.find? fun e=>(i,p) == (e.i,e.p)
def trE (es:List En):Tr:=fun i p=>(fnd es i p).map (·.x)
theorem fnd_mem {es:List En} {i p:Nat} {e:En} (h:fnd es i p=some e):e∈es∧e.i=i∧e.p=p:=by
 refine ⟨List.mem_of_find?_eq_some h,?_⟩;have:=List.find?_some h;simp at this;exact ⟨this.1.symm,this.2.symm⟩
def setBy (es:List En) (b:Nat) (k:Int):List En:=es.map fun e=>if e.b=b then { e with by_:=k } else e
theorem setBy_len (es:List En) (b:Nat) (k:Int):(setBy es b k).length=es.length:=List.length_map _
theorem setBy_key (es:List En) (b:Nat) (k:Int):(setBy es b k).map (fun e=>(e.i,e.p))=es.map fun e=>(e.i,e.p):=by
 unfold setBy;rw [List.map_map];refine List.map_congr_left fun e _=>?_;show (_,_)=_
 dsimp only [Function.comp]
 split <;> rfl
theorem setBy_b (es:List En) (b:Nat) (k:Int):(setBy es b k).map (·.b)=es.map (·.b):=by
 unfold setBy;rw [List.map_map];refine List.map_congr_left fun e _=>?_
 dsimp only [Function.comp]
 split <;> rfl
theorem setBy_fnd (es:List En) (b:Nat) (k:Int) (i p:Nat):fnd (setBy es b k) i p=(fnd es i p).map fun e=>if e.b=b then { e with by_:=k } else e:=by
 unfold fnd setBy;rw [List.find?_map]
 congr 2
 funext e
 dsimp only [Function.comp]
 split <;> rfl
theorem setBy_tr (es:List En) (b:Nat) (k:Int):trE (setBy es b k)=trE es:=by
 funext i p
 unfold trE;rw [setBy_fnd,Option.map_map]
 congr 1
 funext e
 dsimp only [Function.comp]
 split <;> rfl
theorem fnd_snoc {es:List En} {e:En} (i p:Nat):fnd (es++[e]) i p=(fnd es i p).or (if i=e.i∧p=e.p then some e else none):=by
 unfold fnd;rw [List.find?_append]
 congr 1
 by_cases h:i=e.i∧p=e.p
 ·rw [if_pos h,List.find?_cons_of_pos (by simp [h.1,h.2])]
 ·rw [if_neg h,List.find?_cons_of_neg (by simpa using h)]; rfl
theorem trE_snoc {es:List En} {e:En} (h:fnd es e.i e.p=none):trE (es++[e])=setT (trE es) e.i e.p e.x:=by
 funext i p
 show (fnd (es++[e]) i p).map (·.x)=if i=e.i∧p=e.p then some e.x else (fnd es i p).map (·.x);rw [fnd_snoc]
 by_cases hc:i=e.i∧p=e.p
 ·rw [if_pos hc,if_pos hc,hc.1,hc.2,h]; rfl
 ·rw [if_neg hc,if_neg hc]
  cases fnd es i p <;> rfl
theorem idT_at {N:Nat} {es:List En} {i p:Nat} (h:p≠i):idT N (trE es) i p=(fnd es i p).map (·.x):=Cm.idT_ne h
def usE (es:List En) (N:Nat):Nat→List Nat→List En
 | 0,_=>[]
 | d+1,x=>if ap x (N - (d+1))=N - (d+1) then usE es N d x else
  match fnd es (N - (d+1)) (ap x (N - (d+1))) with
  | none=>[]
  | some e=>e :: usE es N d (Ma.mulN x (Ma.invN e.x))
theorem usE_eq {es:List En} {N i:Nat} {x:List Nat} (hi:i<N) (h:ap x i=i):usE es N (N - i) x=usE es N (N - (i+1)) x:=by
 obtain ⟨d,e⟩:∃ d,N - i=d+1:=⟨N - i - 1,by omega⟩
 have e2:N - (i+1)=d:=by omega
 have e3:N - (d+1)=i:=by omega
 rw [e,e2];show (if ap x (N - (d+1))=N - (d+1) then usE es N d x else _)=_;rw [e3,if_pos h]
theorem usE_none {es:List En} {N i:Nat} {x:List Nat} (hi:i<N) (h:ap x i≠i) (hf:fnd es i (ap x i)=none):usE es N (N - i) x=[]:=by
 obtain ⟨d,e⟩:∃ d,N - i=d+1:=⟨N - i - 1,by omega⟩
 have e3:N - (d+1)=i:=by omega
 rw [e];unfold usE;rw [e3,if_neg h,hf]
theorem usE_some {es:List En} {N i:Nat} {x:List Nat} {e0:En} (hi:i<N) (h:ap x i≠i) (hf:fnd es i (ap x i)=some e0):usE es N (N - i) x=e0 :: usE es N (N - (i+1)) (Ma.mulN x (Ma.invN e0.x)):=by
 obtain ⟨d,e⟩:∃ d,N - i=d+1:=⟨N - i - 1,by omega⟩
 have e2:N - (i+1)=d:=by omega
 have e3:N - (d+1)=i:=by omega
 rw [e,e2]
 conv=>lhs; unfold usE
 rw [e3,if_neg h,hf]
theorem sfP_eq {es:List En} {N i:Nat} {x:List Nat} (hi:i<N) (gx:Gd N x) (h:ap x i=i):sfP N (idT N (trE es)) (N - i) x=sfP N (idT N (trE es)) (N - (i+1)) x:=by
 obtain ⟨d,e⟩:∃ d,N - i=d+1:=⟨N - i - 1,by omega⟩
 have e2:N - (i+1)=d:=by omega
 have e3:N - (d+1)=i:=by omega
 rw [e,e2,Cm.sfP_some (u:=Ma.oneN N) (by rw [e3,h]; exact Cm.idT_self),Cm.inv_one,Cm.mul_one gx]
theorem sfP_no {es:List En} {N i:Nat} {x:List Nat} (hi:i<N) (h:ap x i≠i) (hf:fnd es i (ap x i)=none):sfP N (idT N (trE es)) (N - i) x=(i,x):=by
 obtain ⟨d,e⟩:∃ d,N - i=d+1:=⟨N - i - 1,by omega⟩
 have e3:N - (d+1)=i:=by omega
 rw [e,Cm.sfP_none (by rw [e3,idT_at h,hf]; rfl),e3]
theorem sfP_yes {es:List En} {N i:Nat} {x:List Nat} {e0:En} (hi:i<N) (h:ap x i≠i) (hf:fnd es i (ap x i)=some e0):sfP N (idT N (trE es)) (N - i) x=sfP N (idT N (trE es)) (N - (i+1)) (Ma.mulN x (Ma.invN e0.x)):=by
 obtain ⟨d,e⟩:∃ d,N - i=d+1:=⟨N - i - 1,by omega⟩
 have e2:N - (i+1)=d:=by omega
 have e3:N - (d+1)=i:=by omega
 rw [e,e2,Cm.sfP_some (u:=e0.x) (by rw [e3,idT_at h,hf]; rfl)]
theorem usE_len (es:List En) (N:Nat):∀ d x,(usE es N d x).length≤d
 | 0,_=>Nat.le_refl _
 | d+1,x=>by
  unfold usE
  split
  ·exact Nat.le_succ_of_le (usE_len es N d x)
  ·split
   ·exact Nat.zero_le _
   ·exact Nat.succ_le_succ (usE_len es N d _)
theorem usE_mem {es:List En} {N:Nat}:∀ {d:Nat} {x:List Nat} {e:En},e∈usE es N d x→e∈es
 | 0,_,e,h=>by cases h
 | d+1,x,e,h=>by
  unfold usE at h
  split at h
  ·exact usE_mem h
  ·split at h
   ·cases h
   ·rename_i e0 hf
    rcases List.mem_cons.1 h with h | h
    ·rw [h]; exact (fnd_mem hf).1
    ·exact usE_mem h
theorem usE_val {es:List En} {N:Nat} (hg:∀ e∈es,Gd N e.x):∀ {d:Nat} {x:List Nat},d≤N→Gd N x→(sfP N (idT N (trE es)) d x).2=(usE es N d x).foldl (fun y e=>Ma.mulN y (Ma.invN e.x)) x
 | 0,x,_,_=>rfl
 | d+1,x,hd,gx=>by
  have hi:N - (d+1)<N:=by omega
  have e1:N - (N - (d+1))=d+1:=by omega
  have e2:N - (N - (d+1)+1)=d:=by omega
  by_cases h:ap x (N - (d+1))=N - (d+1)
  ·have q1:=sfP_eq (es:=es) hi gx h
   have q2:=usE_eq (es:=es) hi h;rw [e1,e2] at q1 q2;rw [q1,q2];exact usE_val hg (by omega) gx
  ·cases hf:fnd es (N - (d+1)) (ap x (N - (d+1))) with
   | none =>
    have q1:=sfP_no hi h hf;have q2:=usE_none hi h hf;rw [e1] at q1 q2;rw [q1,q2]; rfl
   | some e0 =>
    have q1:=sfP_yes hi h hf;have q2:=usE_some hi h hf;rw [e1,e2] at q1 q2;rw [q1,q2];exact usE_val hg (by omega) (Cm.gd_mul gx (Cm.gd_inv (hg _ (fnd_mem hf).1)))
theorem fold_back {N:Nat}:∀ (l:List En) (x:List Nat),(∀ e∈l,Gd N e.x)→Gd N x→l.foldl (fun y e=>Ma.mulN y (Ma.invN e.x)) x=Ma.oneN N→x=l.reverse.foldl (fun y e=>Ma.mulN y e.x) (Ma.oneN N)
 | [],x,_,_,h=>h
 | e :: l,x,hl,gx,h=>by
  have ge:=hl e (List.mem_cons_self ..);have ih:=fold_back l (Ma.mulN x (Ma.invN e.x)) (fun z hz=>hl z (List.mem_cons_of_mem _ hz)) (Cm.gd_mul gx (Cm.gd_inv ge)) h;rw [List.reverse_cons,List.foldl_append,← ih];exact (Cm.mul_inv_cancel gx ge).symm
structure Tb (N:Nat) (gs:List (List Nat)) (S:List Stp) (T:List (List Nat)) (es:List En):Prop where
 sk:Mk N gs S T
 en:∀ e∈es,EnOk N T e
 ok:TabOk N (·∈gs) (trE es)
 nk:(es.map fun e=>(e.i,e.p)).Nodup
theorem fnd_of {es:List En} (h:(es.map fun e=>(e.i,e.p)).Nodup) {e:En} (he:e∈es):fnd es e.i e.p=some e:=by
 induction es with
 | nil=>cases he
 | cons a es ih =>
  rw [List.map_cons,List.nodup_cons] at h;unfold fnd
  rcases List.mem_cons.1 he with rfl | he
  ·rw [List.find?_cons_of_pos (by simp)]
  ·rw [List.find?_cons_of_neg]
   ·exact ih h.2 he
   ·intro q
    have q:=eq_of_beq q;exact h.1 (List.mem_map.2 ⟨e,he,q⟩)
theorem Tb.le {N:Nat} {gs:List (List Nat)} {S:List Stp} {T:List (List Nat)} {es:List En} (h:Tb N gs S T es) (hg:∀ s,s∈gs→Sd N (idT N (trE es)) N s):LE N (·∈gs) (trE es) (es.map (·.x)):=by
 have key:∀ e∈es,trE es e.i e.p=some e.x:=fun e he=>by unfold trE; rw [fnd_of h.nk he]; rfl
 refine ⟨h.ok,fun x hx=>?_,fun x hx=>?_,?_,hg⟩
 ·obtain ⟨e,he,rfl⟩:=List.mem_map.1 hx
  have:=key e he;obtain ⟨h1,h2⟩:=h.ok.lt _ _ _ this;exact mem_ents.2 ⟨e.i,e.p,h1,h2,this⟩
 ·obtain ⟨i,p,hi,hp,e⟩:=mem_ents.1 hx
  unfold trE at e;obtain ⟨e0,h1,h2⟩:=Option.map_eq_some_iff.1 e;rw [← h2]; exact List.mem_map_of_mem (fnd_mem h1).1
 ·rw [List.Nodup,List.pairwise_map]
  have:=h.nk;rw [List.Nodup,List.pairwise_map] at this;refine List.Pairwise.imp_of_mem (fun {a b} ha hb hne e=>hne ?_) this;have h1:=key a ha;have h2:=key b hb;rw [← e] at h2;obtain ⟨q1,q2⟩:=tab_inj h.ok h1 h2;exact Prod.ext q1 q2
theorem Tb.few {N:Nat} {gs:List (List Nat)} {S:List Stp} {T:List (List Nat)} {es:List En} (h:Tb N gs S T es):es.length≤N*N:=by
 have key:∀ e∈es,trE es e.i e.p=some e.x:=fun e he=>by unfold trE; rw [fnd_of h.nk he]; rfl
 have h1:=nodup_le (l:=es.map fun e=>(e.i,e.p)) (m:=(List.range N).flatMap fun i=>(List.range N).map fun p=>(i,p)) h.nk fun x hx=>by
  obtain ⟨e,he,rfl⟩:=List.mem_map.1 hx;obtain ⟨h1,h2⟩:=h.ok.lt _ _ _ (key e he);exact List.mem_flatMap.2 ⟨e.i,List.mem_range.2 h1,List.mem_map.2 ⟨e.p,List.mem_range.2 h2,rfl⟩⟩
 have h2:∀ l:List Nat,(l.flatMap fun i=>(List.range N).map fun p=>(i,p)).length=l.length*N:=by
  intro l
  induction l with
  | nil=>simp
  | cons a l ih=>rw [List.flatMap_cons,List.length_append,ih,List.length_map,List.length_range,List.length_cons,Nat.succ_mul,Nat.add_comm]
 rw [h2,List.length_map,List.length_range] at h1;exact h1
theorem Tb.grow {N:Nat} {gs:List (List Nat)} {S S':List Stp} {T T':List (List Nat)} {es:List En} (h:Tb N gs S T es) (hm:Mk N gs S' T') (hT:T <+: T'):Tb N gs S' T' es :=
 ⟨hm,fun e he=>(h.en e he).mono hT,h.ok,h.nk⟩
theorem Tb.setBy {N:Nat} {gs:List (List Nat)} {S:List Stp} {T:List (List Nat)} {es:List En} (h:Tb N gs S T es) {b k:Nat} (hk:∀ e∈es,e.b=b→T[k]?=some (Ma.invN e.x)):Tb N gs S T (setBy es b ((k:Nat):Int)):=by
 refine ⟨h.sk,fun e he=>?_,by rw [setBy_tr]; exact h.ok,by rw [setBy_key]; exact h.nk⟩;unfold Go.Proofs.YtdnmmibchbceeaaGreat.setBy at he;obtain ⟨e0,h0,rfl⟩:=List.mem_map.1 he;have h1:=h.en e0 h0
 split
 ·rename_i hb
  exact ⟨h1.gd,h1.fx,h1.ap_,h1.lt,h1.ne,h1.at_,.inr ⟨k,rfl,hk e0 h0 hb⟩⟩
 ·exact h1
theorem Tb.put {N:Nat} {gs:List (List Nat)} (hg:∀ s∈gs,Gd N s) {S:List Stp} {T:List (List Nat)} {es:List En} (h:Tb N gs S T es) {x:List Nat} (hx:Gr N (·∈gs) x) {i:Nat} {y:List Nat} (hA:sfP N (idT N (trE es)) N x=(i,y)) (hi:i<N) {b k:Nat} (hk:T[k]?=some y) :
  Tb N gs S T (es++[⟨b,i,ap y i,y,k,-1⟩])∧(∀ j q u,idT N (trE es) j q=some u→idT N (trE (es++[⟨b,i,ap y i,y,k,-1⟩])) j q=some u)∧Sd N (idT N (trE (es++[⟨b,i,ap y i,y,k,-1⟩]))) N x:=by
 have gx:=(Gr.isG hg).gd x hx;obtain ⟨a1,_,a3,a4,a5⟩:=Cm.sfP_all h.ok.rp (Nat.le_refl N) (by omega) gx (fun j hj=>absurd hj (by omega));obtain ⟨b1,b2,b3,_⟩:=tab_ins hg h.ok hx;rw [hA] at a1 a3 a4 a5 b1 b2 b3;have a5:=a5 hi
 have hne:ap y i≠i:=fun e=>by rw [e,Cm.idT_self] at a5; cases a5
 have hno:fnd es i (ap y i)=none:=by
  rw [idT_at hne] at a5;exact Option.map_eq_none_iff.1 a5
 have ht:trE (es++[⟨b,i,ap y i,y,k,-1⟩])=insT N (trE es) (i,y):=by
  rw [trE_snoc (e:=⟨b,i,ap y i,y,k,-1⟩) hno];unfold insT;rw [if_pos hi]
 rw [ht];refine ⟨⟨h.sk,fun e he=>?_,by rw [ht]; exact b1,?_⟩,b2,b3⟩
 ·rcases List.mem_append.1 he with he | he
  ·exact h.en e he
  ·rw [List.mem_singleton] at he; subst he
   exact ⟨a3,a4,rfl,hi,hne,hk,.inl rfl⟩
 ·rw [List.map_append,List.map_singleton]
  refine List.nodup_append.2 ⟨h.nk,by simp,fun a ha b hb e=>?_⟩;rw [List.mem_singleton] at hb;subst hb;obtain ⟨e0,h0,h1⟩:=List.mem_map.1 ha;rw [e] at h1
  injection h1 with h1 h2
  have:=fnd_of h.nk h0;rw [h1,h2,hno] at this
  cases this
theorem Tb.same {N:Nat} {gs:List (List Nat)} (hg:∀ s∈gs,Gd N s) {S:List Stp} {T:List (List Nat)} {es:List En} (h:Tb N gs S T es) {x:List Nat} (hx:Gr N (·∈gs) x) (hA:¬ (sfP N (idT N (trE es)) N x).1<N):Sd N (idT N (trE es)) N x:=by
 obtain ⟨_,_,b3,_⟩:=tab_ins hg h.ok hx;unfold insT at b3
 rwa [if_neg hA] at b3
theorem sfP_grp {n:Nat} {H:List Nat→Prop} (hH:IsG n H) {tr:Tr} (ht:IsTr n H tr) {x:List Nat} (gx:Gd n x):(sfP n tr n x).1=n↔H x:=by
 constructor
 ·intro e
  have key:∀ d x,d≤n→Gd n x→(sfP n tr d x).1=n→H (sfP n tr d x).2→H x:=by
   intro d
   induction d with
   | zero=>intro x _ _ _ h; exact h
   | succ d ih =>
    intro x hd gx he hx
    cases hu:tr (n - (d+1)) (ap x (n - (d+1))) with
    | none =>
     rw [Cm.sfP_none hu] at he;simp at he;omega
    | some u =>
     rw [Cm.sfP_some hu] at he hx;have hmu:=ht.mem _ _ _ (by omega) hu;have gu:=hH.gd u hmu;have:=ih _ (by omega) (Cm.gd_mul gx (Cm.gd_inv gu)) he hx;have h2:=hH.mul _ _ this hmu
     rwa [Cm.mul_inv_cancel gx gu] at h2
  have hone:(sfP n tr n x).2=Ma.oneN n:=by
   have h1:=Cm.sfP_all ht.rp (d:=n) (x:=x) (Nat.le_refl _) (Nat.zero_le _) gx (by rw [Nat.sub_self]; intro j hj; omega);refine Fx.all h1.2.2.1 ?_;have h2:=h1.2.2.2.1;have e2:(sfP n tr n x).1=n:=e
   rwa [e2] at h2
  exact key n x (Nat.le_refl _) gx e (by rw [hone]; exact hH.one)
 ·intro hx
  have key:∀ d x,d≤n→St H (n - d) x→(sfP n tr d x).1=n:=by
   intro d
   induction d with
   | zero=>intro x _ _; rfl
   | succ d ih =>
    intro x hd hx;obtain ⟨u,hu⟩:=ht.all (n - (d+1)) x (by omega) hx;rw [Cm.sfP_some hu];have gx:=hH.gd x hx.1;have hs:=Cm.step_fx ht.rp (Nat.zero_le _) (by omega) gx hx.2 hu;refine ih _ (by omega) ⟨hH.mul _ _ hx.1 (hH.inv _ (ht.mem _ _ _ (by omega) hu)),?_⟩;rw [show n - d=n - (d+1)+1 by omega];exact hs.2
  exact key n x (Nat.le_refl _) ⟨hx,by rw [Nat.sub_self]; intro j hj; omega⟩
theorem Tb.prod {N:Nat} {gs:List (List Nat)} {S:List Stp} {T:List (List Nat)} {es:List En} (h:Tb N gs S T es) {x:List Nat} (gx:Gd N x) (hA:(sfP N (idT N (trE es)) N x).1=N):x=(usE es N N x).reverse.foldl (fun y e=>Ma.mulN y e.x) (Ma.oneN N):=by
 have hg:∀ e∈es,Gd N e.x:=fun e he=>(h.en e he).gd;refine fold_back _ _ (fun e he=>hg e (usE_mem he)) gx ?_;rw [← usE_val hg (Nat.le_refl _) gx];have h1:=Cm.sfP_all h.ok.rp (d:=N) (x:=x) (Nat.le_refl _) (Nat.zero_le _) gx (by rw [Nat.sub_self]; intro j hj; omega);refine Fx.all h1.2.2.1 ?_;have h2:=h1.2.2.2.1
 rwa [hA] at h2
end Go.Proofs.YtdnmmibchbceeaaGreat
