/- Lemmas and contracts on the way to the statement; no condition of their own beyond those written. -/
import Derived.Test.YthehbckogieimaaGreatXFbtoHk
import Derived.Deep.MidRow
import Derived.Deep.WholeRow
import Derived.Laws.CopyOwn
import Derived.RangeFuncWrites
import Derived.RangeFuncNested
import Derived.RangeFuncBox
import Derived.RangeFuncLeaves
import Derived.Shelf.Abstract
import Derived.OwnWalkIn
import Derived.TacticsInMore
import Derived.LoopNIn
import Derived.LoopIn
import Derived.Maps.AppendAt
import Derived.Sort.CutIn
import Derived.Deep.CutRange
import Derived.Deep.CutBlock
import Derived.IntWalk
import Derived.Great.BuildSlice
import Derived.ArgAppend
import Derived.StillTailTactics
import Derived.WalkSpells
import Derived.WalkLawsBesides
import Derived.OwnWalk
import Derived.OrdersHeld
import Derived.Deep.OwnRows
import Derived.WalkKit
import Derived.Lib.Hide
import Derived.Laws.OwnMore
import Derived.Test.YthehbckogieimaaGreatProg
import Derived.Outline
import Derived.Deep.DeepFit
import Derived.BigQuiet
import Derived.Deep.QuietTactic
import Derived.Sort.OwnSortedInts
import Derived.WideMake
import Derived.MapKept
import Derived.ChangeMaps5
import Derived.Shelf.Sort.Plain
import Derived.Lib.ConvBytes
import Derived.ChangeKeysEq
import Derived.Laws.Cells
import Derived.Laws.Rows
import Derived.Laws.Tables
import Derived.OrdersIn
import Derived.TacticsIn
import Derived.Deep.LoopGhost
import Derived.Lib.SlicesSearch
import Derived.Stop.BytesEq
import Derived.Shelf.SlSortCmp.Whole1
import Derived.Ground.SlsfProg
set_option linter.unusedVariables false
set_option linter.unusedSimpArgs false
set_option maxRecDepth 100000
set_option maxHeartbeats 8000000
namespace Go.Proofs.YthehbckogieimaaGreat
open Go.RowKit
open Go.Proofs
open Go.Proofs.Ob
open Go.Proofs.Cm (Gd)
attribute [local irreducible] Go.Calls Go.wpList
theorem Hlcl1 (args:Array Value) (w:World):(callFunc 86 args).run Tryz.prog w=.ok (.enter 86 args) w:=by kernel_rfl
theorem Hlcl3 (args:Array Value) (w:World):(callFunc 88 args).run Tryz.prog w=.ok (.enter 88 args) w:=by kernel_rfl
theorem Hlcl4 (args:Array Value) (w:World):(callFunc 91 args).run Tryz.prog w=.ok (.enter 91 args) w:=by kernel_rfl
theorem Hlcl5 (args:Array Value) (w:World):(callFunc 89 args).run Tryz.prog w=.ok (.enter 89 args) w:=by kernel_rfl
theorem GI.up {w w':World} {b:Nat} {d:Int} {a:Option Addr} {ll:List (List Int)} {c:Nat} (h:GI w b d a ll c) (hb:Below w.heap.size w w'):GI w' b d a ll c:=h.below hb
theorem LbR.fiw {w w':World} {v:Value} {n:Nat} {L:List Nat} (h:LbR w w' v n L) (hn:n≤1000) {F:Nat→Prop}:FiW (Fup F w w') w' v L:=⟨h.fp hn⟩
theorem FiW.np {F:Nat→Prop} {w:World} {v:Value} {x:List Nat} (h:FiW F w v x):Rg.NP w v x:=Rg.FI.ints h.fi
theorem inT_nil:inT []=fun _ _=>False:=funext fun x=>funext fun y=>propext ⟨fun h=>absurd (show (x,y)∈[] from h) List.not_mem_nil,False.elim⟩
theorem bleastF (n:Nat) (gv pv:Value) (gs:List (List Nat)) (T0:List (Nat × Nat)) (w:World) (hn:n≤64) (hg:Rg.Rows w gv (gs.map Ma.ofN)) (hgg:GG n gs) (hgl:gs.length≤1000) (hp:Prs w pv T0) (hr:∀ z∈T0,z.1<n∧z.2<n) (hl:T0.length≤1000) :
  Calls Tryz.prog 87 #[.agg #[.int .i64 ((n:Nat):Int),gv],pv] w fun e w'=>∃ ob L,e=.returned (.slice (some ⟨ob,0,none⟩) n n)∧LbR w w' (.slice (some ⟨ob,0,none⟩) n n) n L∧Bk.IsLab n (Bk.BR gs.length (img gs) (inT T0)) L∧Below w.heap.size w w' :=
 (bleast_any n gv pv gs T0 w hn hg hgg hgl hp hr hl).mono fun _ _ ⟨v,M,h1,h2,h3⟩=>by
  obtain ⟨ob,rfl⟩:=h2.shape;exact ⟨ob,M,h1,h2,h3,h2.bel⟩
theorem bjoinedF (n:Nat) (gv xv yv:Value) (gs:List (List Nat)) (x y:List Nat) (w:World) (hn1:1≤n) (hn:n≤64) (hg:Rg.Rows w gv (gs.map Ma.ofN)) (hgg:GG n gs) (hgl:gs.length≤1000) (hx:Rg.NP w xv x) (hy:Rg.NP w yv y) (hxl:x.length=n) (hyl:y.length=n) :
  Calls Tryz.prog 89 #[.agg #[.int .i64 ((n:Nat):Int),gv],xv,yv] w fun e w'=>∃ ob L,e=.returned (.slice (some ⟨ob,0,none⟩) n n)∧LbR w w' (.slice (some ⟨ob,0,none⟩) n n) n L∧Bk.IsLab n (Bk.BR gs.length (img gs) (Bk.both n x y)) L∧Below w.heap.size w w' :=
 (bjoined_any n gv xv yv gs x y w hn1 hn hg hgg hgl hx hy hxl hyl).mono fun _ _ ⟨v,M,h1,h2,h3⟩=>by
  obtain ⟨ob,rfl⟩:=h2.shape;exact ⟨ob,M,h1,h2,h3,h2.bel⟩
theorem SpM.sorted2 {w W:World} {F:Nat→Prop} {r:Nat} {fv:Value} {T:List (List Nat)} (h:SpM w W F r fv T) (h0:T≠[]) (hn:T.length≤200000) :
  ∃ b c,fv=.slice (some ⟨b,0,none⟩) T.length c∧Calls Tryz.prog 91 #[.slice (some ⟨b,0,none⟩) T.length c,.func (.func 90) #[] #[]] W fun e w'=>e=.returned (.tuple #[])∧∃ T',Hid (T'.Perm T∧AscL T'∧Rg.Rows w' (.slice (some ⟨b,0,none⟩) T.length c) (T'.map Ma.ofN))∧Below w.heap.size w w':=by
 obtain ⟨us,h1,h2⟩:=h.row.own;have hlt:=h.row.lt;have hoff:=h.row.off;obtain ⟨h3,h4⟩:=h1
 rcases h4 with ⟨rfl,h5⟩ | ⟨g,cap,cur,rfl,h6,h7,h8,h9,h10,h11⟩
 ·rw [List.length_map] at h5
  exact absurd (List.length_eq_zero_iff.1 h5) h0
 ·simp only [Nat.mul_one] at *
  rw [List.length_map] at *;refine ⟨g,cap,rfl,?_⟩;have hs:=sortLL (F:=F) (w:=W) (blk:=g) (cap:=cap) h2 (hoff g rfl).1 (fun i hi=>?_) (hlt g rfl).2 (by rw [List.length_map]; omega) (by rw [List.length_map]; exact h8) h9
  ·rw [List.length_map] at hs
   refine hs.mono ?_;rintro e w' ⟨rfl,ll',p1,p2,p3,p4⟩;obtain ⟨T',rfl,p5⟩:=perm_back p1;exact ⟨rfl,T',ι ⟨p5,p2,p3⟩,kp_below h.bel h.bel.size p4 (fun k e=>by subst e; exact h6)⟩
  ·have hi2:i<T.length:=by omega
   refine ⟨?_,?_⟩
   ·rw [cell_of_row _ _ _ _ _ _ h7,← Array.getElem?_toList,← List.getElem?_eq_getElem hi]
    conv=>rhs; rw [← h11]
    rw [List.getElem?_take_of_lt hi2]
   ·exact frozen_of_row _ _ _ _ _ h7
def AlPost (d:Int) (ll:List (List Int)) (w:World) (e:Ending) (w':World):Prop :=
 Below w.heap.size w w'∧((Ma.gchk d ll≠0∧e=.returned (.tuple #[.slice none 0 0,.int .i64 (Ma.gchk d ll)])) ∨
  (Ma.gchk d ll=0∧∃ (D:Nat) (gs:List (List Nat)),d=D∧ll=gs.map Ma.ofN ∧
   ((trn gs D=false∧e=.returned (.tuple #[.slice none 0 0,.int .i64 13]))∨(trn gs D=true∧24<D∧e=.returned (.tuple #[.slice none 0 0,.int .i64 5])) ∨
    (trn gs D=true∧D≤24∧∃ T v,e=.returned (.tuple #[v,.int .i64 0])∧Rg.Rows w' v (T.map Ma.ofN)∧Bk.AllB D gs.length (img gs) T∧AscL T))))
theorem All_any (gv:Value) (d:Int) (ll:List (List Int)) (w:World) (h:Rg.Rows w gv ll)
  (hbd:∀ (D:Nat) (gs:List (List Nat)),d=D→ll=gs.map Ma.ofN→GG D gs→trn gs D=true→D≤24→∀ T:List (List Nat),T.Nodup→(∀ y∈T,Bk.RcB D gs.length (img gs) y)→T.length≤200000) :
  Calls Tryz.prog 16 #[.agg #[.int .i64 d,gv]] w (AlPost d ll w):=by
 have HBD:=ι hbd;clear hbd;obtain ⟨ga,gc,rfl,hga,hba⟩:=GI.enter (d) h;have K:=ι hba;have G0:=ι hga;clear h hga hba;obtain ⟨ck,hck⟩:∃ c,Hid (Ma.gchk d ll=c):=⟨_,ι rfl⟩
 go_enter Tryz.func16,Tryz.ntmps16
 go_upto_region 0 with (fail);refine wp_region_list ?_;refine Rg.lr 1 (Rg.exec_box _ _ rfl rfl) ?_;go_frame;refine Rg.la 2 (.slice none 0 0) ?_;go_frame;refine Rg.la 3 (.int .i64 0) ?_;go_frame;obtain ⟨gb,hgb⟩:∃ gb,w.heap.size=gb:=⟨_,rfl⟩;rw [hgb] at G0 ⊢;clear hgb;generalize w.alloc (.cells #[.int .i64 d,.slice ga ll.length gc] 24)=w0 at *;go_upto_region 1 with (fail);refine wp_region_list ?_;refine Rg.lr 15 (Rg.exec_load (v:=.agg #[.int .i64 d,.slice ga ll.length gc]) _ _ rfl ⟨gb,0,none⟩ rfl (run_loadG G0.out.c0 G0.out.c1)) ?_;go_frame;refine list_ask (some 16) rfl rfl _ _ (exec_fn1 85 _ _ rfl rfl (vacl0 _ _)) ?_;refine (orbitCheck_any _ d ll w0 G0.out.rows).mono ?_;rintro e1 w1 ⟨rfl,hb⟩;rw [hck.out];refine ⟨_,rfl,?_⟩;go_frame;replace G0:=ι (G0.out.below hb);replace K:=ι (Rg.acc K.out hb);clear hb;refine Rg.la 4 (.int .i64 ck) ?_;go_frame
 by_cases h0:ck=0
 case neg =>
  skip
  go_upto_region 2 with (fail);refine wp_region_list ?_;refine Rg.lm 17 (.int .i64 ck) ?_;go_frame;refine Rg.lr 18 (exec_bin (R:=.bool true) .neq _ _ _ rfl rfl rfl (b_neqB _ (decide_eq_true h0))) ?_;go_frame;go_upto_region 3 with (fail);refine wp_region_list ?_;refine Rg.lm 19 (.int .i64 ck) ?_;go_frame;refine Rg.la 2 (.slice none 0 0) ?_;go_frame;refine Rg.la 3 (.int .i64 ck) ?_;go_frame;go_wp2
  go_ret2
  exact ⟨K.out,.inl ⟨by rw [hck.out]; exact h0,by rw [hck.out]; rfl⟩⟩
 case pos =>
  have HZ:=ι (hck.out.trans h0);go_upto_region 2 with (fail);refine wp_region_list ?_;refine Rg.lm 17 (.int .i64 ck) ?_;go_frame;refine Rg.lr 18 (exec_bin (R:=.bool false) .neq _ _ _ rfl rfl rfl (b_neqB _ (decide_eq_false (fun e=>e h0)))) ?_;go_frame;clear h0;obtain ⟨D,gs,hD,hgs,hgg,hD1,hD2,hgl⟩:=gchk_ok HZ.out;subst hD hgs;have HGG:=ι hgg;clear hgg;obtain ⟨tb,htb⟩:∃ b,Hid (trn gs D=b):=⟨_,ι rfl⟩
  cases tb
  case false =>
   skip
   go_upto_region 4 with (fail);refine wp_region_list ?_;refine Rg.lr 20 (Rg.exec_load (v:=.agg #[.int .i64 ((D:Nat):Int),.slice ga (gs.map Ma.ofN).length gc]) _ _ rfl ⟨gb,0,none⟩ rfl (run_loadG G0.out.c0 G0.out.c1)) ?_;go_frame;refine list_ask (some 21) rfl rfl _ _ (exec_fn1 86 _ _ rfl rfl (Hlcl1 _ _)) ?_;refine (btrans_any _ D gs w1 HZ.out G0.out.rows).mono ?_;rintro e1 w2 ⟨rfl,hb⟩;rw [htb.out];refine ⟨_,rfl,?_⟩;go_frame;replace G0:=ι (G0.out.below hb);replace K:=ι (Rg.acc K.out hb);clear hb;refine Rg.lr 22 (exec_not _ _ false rfl rfl) ?_;go_frame;go_upto_region 5 with (fail);refine wp_region_list ?_;refine Rg.la 2 (.slice none 0 0) ?_;go_frame;refine Rg.la 3 (.int .i64 ((13:Nat):Int)) ?_;go_frame;go_wp2
   go_ret2
   exact ⟨K.out,.inr ⟨HZ.out,D,gs,rfl,rfl,.inl ⟨htb.out,rfl⟩⟩⟩
  case true =>
   skip
   go_upto_region 4 with (fail);refine wp_region_list ?_;refine Rg.lr 20 (Rg.exec_load (v:=.agg #[.int .i64 ((D:Nat):Int),.slice ga (gs.map Ma.ofN).length gc]) _ _ rfl ⟨gb,0,none⟩ rfl (run_loadG G0.out.c0 G0.out.c1)) ?_;go_frame;refine list_ask (some 21) rfl rfl _ _ (exec_fn1 86 _ _ rfl rfl (Hlcl1 _ _)) ?_;refine (btrans_any _ D gs w1 HZ.out G0.out.rows).mono ?_;rintro e1 w2 ⟨rfl,hb⟩;rw [htb.out];refine ⟨_,rfl,?_⟩;go_frame;replace G0:=ι (G0.out.below hb);replace K:=ι (Rg.acc K.out hb);clear hb;refine Rg.lr 22 (exec_not _ _ true rfl rfl) ?_;go_frame
   by_cases h24:24<D
   case pos =>
    skip
    go_upto_region 6 with (fail);refine wp_region_list ?_;refine Rg.lr 23 (exec_fieldG0 _ rfl rfl) ?_;go_frame;refine Rg.lr 24 (Rg.exec_load (v:=.int .i64 ((D:Nat):Int)) _ _ rfl ⟨gb,0,none⟩ rfl (run_loadInt G0.out.c0)) ?_;go_frame;refine Rg.lr 25 (exec_bin (R:=.bool true) .gtr _ _ _ rfl rfl rfl (b_gtr _ (decide_eq_true (by omega)))) ?_;go_frame;go_upto_region 7 with (fail);refine wp_region_list ?_;refine Rg.la 2 (.slice none 0 0) ?_;go_frame;refine Rg.la 3 (.int .i64 ((5:Nat):Int)) ?_;go_frame;go_wp2
    go_ret2
    exact ⟨K.out,.inr ⟨HZ.out,D,gs,rfl,rfl,.inr (.inl ⟨htb.out,h24,rfl⟩)⟩⟩
   case neg =>
    have hD24:D≤24:=by omega
    clear h24;replace HBD:=ι (HBD.out D gs rfl rfl HGG.out htb.out hD24);go_upto_region 6 with (fail);refine wp_region_list ?_;refine Rg.lr 23 (exec_fieldG0 _ rfl rfl) ?_;go_frame;refine Rg.lr 24 (Rg.exec_load (v:=.int .i64 ((D:Nat):Int)) _ _ rfl ⟨gb,0,none⟩ rfl (run_loadInt G0.out.c0)) ?_;go_frame;refine Rg.lr 25 (exec_bin (R:=.bool false) .gtr _ _ _ rfl rfl rfl (b_gtr _ (decide_eq_false (by omega)))) ?_;go_frame;go_upto_region 8 with (fail);refine wp_region_list ?_;refine Rg.lr 26 (Rg.exec_load (v:=.agg #[.int .i64 ((D:Nat):Int),.slice ga (gs.map Ma.ofN).length gc]) _ _ rfl ⟨gb,0,none⟩ rfl (run_loadG G0.out.c0 G0.out.c1)) ?_;go_frame;refine list_ask (some 27) rfl rfl _ _ (exec_fn 87 _ _ _ rfl rfl rfl (Hicl1 _ _)) ?_;refine (bleastF D _ _ gs [] w2 hD2 G0.out.rows HGG.out (by omega) (Prs.nil _) (fun z hz=>by cases hz) (Nat.zero_le _)).mono ?_;rintro e1 w3 ⟨fb0,L0,rfl,hlr,hlab,hb⟩
    have HF0:=ι (show Bk.Fst0 D gs.length (img gs) L0 by rw [inT_nil] at hlab; exact hlab);have hfk:=hlr.fik (by omega);clear hlr hlab;refine ⟨_,rfl,?_⟩;go_frame;replace G0:=ι (G0.out.below hb);replace K:=ι (Rg.acc K.out hb);clear hb;have FK:=ι hfk;refine Rg.la 5 (.slice (some ⟨fb0,0,none⟩) D D) ?_;go_frame;clear hfk;have HFK:=ι (show GK D L0 from rgc_gk hD2 HF0.out.len HF0.out.rg);have HWB:=ι K.out;have KB:=ι (Below.refl w3.heap.size w3);have GB:=ι G0.out;clear G0;obtain ⟨mr,hmr⟩:∃ r,w3.heap.size=r:=⟨_,rfl⟩;have HMR:=ι hmr;go_upto_region 9 with (fail);refine wp_region_list ?_;have hmp:=KmW.mk (T:=[]) (show Km.KMap _ _ (seenM []) from Km.KMap.new w3);refine Rg.lr 28 (exec_makeMap _ rfl) ?_;go_frame;rw [hmr] at hmp ⊢;have hb:=(Below.refl w3.heap.size w3).alloc (Nat.le_refl _) (.map #[] 0);generalize w3.alloc (.map #[] 0)=w4 at *;replace FK:=ι (FK.out.below hb)
    replace KB:=ι (Rg.acc KB.out hb);clear hb;have MP:=ι hmp;clear hmp;refine Rg.lm 29 (.slice (some ⟨fb0,0,none⟩) D D) ?_;go_frame;refine list_ask (some 30) rfl rfl _ _ (exec_fn1 88 _ _ rfl rfl (Hlcl3 _ _)) ?_;refine (bpacked_any _ L0 w4 (Rg.FI.ints FK.out.fi) (by rw [HF0.out.len]; omega) HFK.out.2.2).mono ?_;rintro e1 w5 ⟨rfl,hb⟩;refine ⟨_,rfl,?_⟩;go_frame;replace FK:=ι (FK.out.below hb);replace MP:=ι (MP.out.below hb);replace KB:=ι (Rg.acc KB.out hb);clear hb;obtain ⟨W9,m1,m2,m3⟩:=put_seen (T:=[]) MP.out.m (fun q hq=>by simp at hq) HFK.out (by simp);refine Rg.list_skip none rfl rfl (Rg.exec_insert _ _ _ _ rfl _ _ _ rfl rfl rfl m1) ?_;go_frame;refine Rg.lm 31 ((.map (some mr))) ?_;go_frame;refine Rg.la 6 ((.map (some mr))) ?_;go_frame
    have hkm:Rg.Kp (fun z=>z=mr) w5 W9:=Rg.Kp.of_grown m3 (fun k e=>by injection e with e; exact e.symm)
    have hb9:Below w3.heap.size w3 W9:=kp_below KB.out KB.out.size hkm (fun k e=>Nat.le_of_eq (hmr.trans e.symm));have hfk9:FiK (fun z=>z<w3.heap.size) W9 (.slice (some ⟨fb0,0,none⟩) D D) L0:=⟨Rg.FI.kp FK.out.fi hkm (fun z hz e=>by omega),fun z hz=>Nat.lt_of_lt_of_le hz hb9.size⟩;have AM:=ι (AlM.start hb9 m2 hfk9.fi ⟨_,_,_,rfl⟩ (Nat.le_of_eq hmr) (fun (e:mr<w3.heap.size)=>by omega) hfk9.lt);clear m1 m2 m3 hkm hb9 hfk9 MP FK KB HMR;go_upto_region 10 with (fail);refine wp_region_list ?_;refine Rg.lm 32 (.slice (some ⟨fb0,0,none⟩) D D) ?_;go_frame;refine Rg.lr 33 (Rg.exec_buildSlice _ _ _ rfl (.slice (some ⟨fb0,0,none⟩) D D) rfl (run_build1L W9 _ ⟨_,_,_,rfl⟩)) ?_;go_frame;refine Rg.la 7 (.slice (some ⟨W9.heap.size,0,none⟩) 1 1) ?_;go_frame;generalize W9.alloc (.cells #[.slice (some ⟨fb0,0,none⟩) D D] 36)=w9 at *;obtain ⟨fb,hfb⟩:∃ fb,W9.heap.size=fb:=⟨_,rfl⟩
    rw [hfb] at AM ⊢;clear hfb;obtain ⟨F,hF⟩:∃ F:Nat→Prop,(fun z=>z<w3.heap.size)=F:=⟨_,rfl⟩;rw [hF] at AM;clear hF hmr;go_upto_region 11 with (fail);refine wp_region_list ?_;refine Rg.la 8 (.slice none 0 0) ?_;go_frame;go_upto_region 12 with (fail);refine wp_region_list ?_;refine Rg.la 9 (.int .i64 ((1:Nat):Int)) ?_;go_frame;have BO:=ι (Bk.BsOk.nil (n:=D) (m:=gs.length) (f:=img gs));go_wp2
    go_loopw [8,9] (fun bv pv wr=>∃ (k:Nat) (F:Nat→Prop) (Bs:List (List Nat)),pv=.int .i64 ((k+1:Nat):Int)∧k+1≤D∧Hid (AlM w3 wr F mr (.slice (some ⟨fb,0,none⟩) 1 1) bv [L0] Bs)∧Hid (Bk.BsOk D gs.length (img gs) Bs k)) (fun _ pv _=>D - (intOf pv).toNat)
    case atStart=>exact ⟨0,_,_,rfl,hD1,AM,BO⟩
    case round =>
     clear AM BO;obtain ⟨k,F,Bs,rfl,hk,AM,BO⟩:=hrel;obtain ⟨ba,bc,hsh⟩:=AM.out.base.shape;rw [List.length_map] at hsh;subst hsh;generalize wr=wd at *;have GD:=ι (GB.out.below AM.out.bel)
     by_cases hkD:k+1<D
     case pos =>
      have HKD:=ι hkD;have HBL:=ι BO.out.1;go_upto_region 13 with (fail);refine wp_region_list ?_;refine Rg.lm 34 (.int .i64 (((k+1):Nat):Int)) ?_;go_frame;refine Rg.lr 35 (exec_fieldG0 _ rfl rfl) ?_;go_frame;refine Rg.lr 36 (Rg.exec_load (v:=.int .i64 ((D:Nat):Int)) _ _ rfl ⟨gb,0,none⟩ rfl (run_loadInt GD.out.c0)) ?_;go_frame;refine Rg.lr 37 (exec_bin (R:=.bool true) .lss _ _ _ rfl rfl rfl (b_lss _ (decide_eq_true (by omega)))) ?_;go_frame;go_upto_region 15 with (fail);refine wp_region_list ?_;refine Rg.lm 40 (.slice ba Bs.length bc) ?_;go_frame;refine Rg.lr 41 (Rg.exec_load (v:=.agg #[.int .i64 ((D:Nat):Int),.slice ga (gs.map Ma.ofN).length gc]) _ _ rfl ⟨gb,0,none⟩ rfl (run_loadG GD.out.c0 GD.out.c1)) ?_;go_frame;refine Rg.lm 42 (.int .i64 (((k+1):Nat):Int)) ?_;go_frame;refine Rg.lr 43 (exec_build2 _ _ rfl rfl rfl) ?_;go_frame;have hpr:=prs_one (W:=wd) (A:=0) (B:=k+1) ((Below.refl _ _).alloc (Nat.le_refl _) _) rfl
      refine Rg.lr 44 (Rg.exec_buildSlice _ _ _ rfl (.agg #[.int .i64 ((0:Nat):Int),.int .i64 (((k+1):Nat):Int)]) rfl (run_build2p wd _ _)) ?_;go_frame;have hb:=(Below.refl wd.heap.size wd).alloc (Nat.le_refl _) (.cells #[.int .i64 ((0:Nat):Int),.int .i64 (((k+1):Nat):Int)] 108);generalize wd.alloc (.cells #[.int .i64 ((0:Nat):Int),.int .i64 (((k+1):Nat):Int)] 108)=w51 at *;replace AM:=ι (AM.out.up hb);generalize Fup F wd w51=F1 at *;clear hb;have PR:=ι hpr;clear hpr;refine list_ask (some 45) rfl rfl _ _ (exec_fn 87 _ _ _ rfl rfl rfl (Hicl1 _ _)) ?_;refine (bleastF D _ _ gs [(0,k+1)] w51 hD2 (GB.out.below AM.out.bel).rows HGG.out (by omega) PR.out (fun z hz=>by rw [List.mem_singleton] at hz; subst hz; exact ⟨by show 0<D; omega,HKD.out⟩) (by show 1≤1000; omega)).mono ?_;rintro e1 w52 ⟨yb,y,rfl,hlr,hlab,hb⟩;have HLB:=ι (show Bk.IsLab D (Bk.BR gs.length (img gs) (Bk.onep 0 (k+1))) y by rw [inT_one] at hlab; exact hlab)
      clear hlab;refine ⟨_,rfl,?_⟩;go_frame;replace AM:=ι (AM.out.up hb);have YV:=ι (hlr.fiw (F:=F1) (by omega));generalize Fup F1 w51 w52=F2 at *;clear hb;clear hlr PR;obtain ⟨a9,c9,X9,r1,ham⟩:=AM.out.pushB YV.out.fi ⟨_,_,_,rfl⟩ (by have:=HBL.out; omega) 27;refine Rg.lr 46 (Rg.exec_buildSlice _ _ _ rfl (.slice (some ⟨yb,0,none⟩) D D) rfl (run_build1L w52 _ ⟨_,_,_,rfl⟩)) ?_;go_frame;refine Rg.lr 47 (Rg.exec_append _ _ _ rfl rfl rfl r1) ?_;go_frame;refine Rg.la 8 (.slice a9 (Bs.length+1) c9) ?_;go_frame;have AM9:=ι ham;clear r1 ham;go_upto_region 14 with (fail);refine wp_region_list ?_;refine Rg.lm 38 (.int .i64 (((k+1):Nat):Int)) ?_;go_frame;refine Rg.lr 39 (exec_bin (R:=.int .i64 (((k+1+1):Nat):Int)) .add _ _ _ rfl rfl rfl (b_add _ (by omega) (by omega))) ?_;go_frame;refine Rg.la 9 (.int .i64 (((k+1+1):Nat):Int)) ?_;go_frame;go_wp2
      go_roundw
      case rel=>exact ⟨k+1,_,Bs++[y],by go_num,HKD.out,AM9,ι (BO.out.snoc HLB.out)⟩
      case measure=>simp [intOf]; have:=HKD.out; omega
     case neg =>
      have hDk:D=k+1:=by omega
      have BO2:=ι (show Bk.BsOk D gs.length (img gs) Bs (D - 1) by rw [show D - 1=k by omega]; exact BO.out);go_upto_region 13 with (fail);refine wp_region_list ?_;refine Rg.lm 34 (.int .i64 (((k+1):Nat):Int)) ?_;go_frame;refine Rg.lr 35 (exec_fieldG0 _ rfl rfl) ?_;go_frame;refine Rg.lr 36 (Rg.exec_load (v:=.int .i64 ((D:Nat):Int)) _ _ rfl ⟨gb,0,none⟩ rfl (run_loadInt GD.out.c0)) ?_;go_frame;refine Rg.lr 37 (exec_bin (R:=.bool false) .lss _ _ _ rfl rfl rfl (b_lss _ (decide_eq_false (by omega)))) ?_;go_frame;go_upto_region 16 with (fail);refine wp_region_list ?_;refine Rg.la 10 (.int .i64 ((0:Nat):Int)) ?_;go_frame;obtain ⟨fv0,hfv⟩:∃ v,Value.slice (some ⟨fb,0,none⟩) 1 1=v:=⟨_,rfl⟩;have AJ0:=ι (Bk.AJ.start (Bs:=Bs) HF0.out);have HBL:=ι BO2.out.1;clear BO GD hfv fv0 hkD hDk;go_wp2
      go_loopw [7,10] (fun fv iv wr=>∃ (i:Nat) (F:Nat→Prop) (T:List (List Nat)),iv=.int .i64 ((i:Nat):Int)∧i≤T.length∧Hid (AlM w3 wr F mr fv (.slice ba Bs.length bc) T Bs)∧Hid (Bk.AJ D gs.length (img gs) Bs T i 0)) (fun _ iv _=>200001 - (intOf iv).toNat)
      case atStart=>exact ⟨0,_,_,rfl,Nat.zero_le _,AM,AJ0⟩
      case round =>
       clear AM AJ0;obtain ⟨i,F,T,rfl,hi,AM,AJ⟩:=hrel;obtain ⟨fa,fc,hsh⟩:=AM.out.row.shape;rw [List.length_map] at hsh;subst hsh;generalize wr=wd at *;have hTm:=HBD.out T AJ.out.nd AJ.out.rc
       by_cases hiT:i<T.length
       case neg =>
        have HTM:=ι hTm;clear hTm;go_upto_region 17 with (fail);refine wp_region_list ?_;refine Rg.lm 48 (.int .i64 ((i:Nat):Int)) ?_;go_frame;refine Rg.lm 49 (.slice fa T.length fc) ?_;go_frame;refine Rg.lr 50 (exec_len _ _ _ rfl Tryz.underlying27 _ _ _ rfl) ?_;go_frame;refine Rg.lr 51 (exec_bin (R:=.bool false) .lss _ _ _ rfl rfl rfl (b_lss _ (decide_eq_false (by omega)))) ?_;go_frame;have HALL:=ι (AJ.out.done hD1 (img_lt HGG.out) (by omega) BO2.out)
        have hT0:T≠[]:=fun e=>by obtain ⟨z,hz,_⟩:=AJ.out.one; rw [e] at hz; cases hz
        obtain ⟨sb,sc,hsh,hsort⟩:=AM.out.sp.sorted2 hT0 HTM.out;have HSO:=ι hsort
        injection hsh with e1 e2 e3
        subst e1 e3;clear hsort e2 hT0;go_upto_region 27 with (fail);refine wp_region_list ?_;refine Rg.la 14 (.func (.func 90) #[] #[]) ?_;go_frame;go_upto_region 28 with (fail);refine wp_region_list ?_;refine Rg.lm 80 (.slice (some ⟨sb,0,none⟩) T.length fc) ?_;go_frame;refine Rg.lm 81 (.func (.func 90) #[] #[]) ?_;go_frame;refine list_ask (some 82) rfl rfl _ _ (exec_fn 91 _ _ _ rfl rfl rfl (Hlcl4 _ _)) ?_;refine (HSO.out).mono ?_;rintro e1 w101 ⟨rfl,T',hT',hB⟩;have KD:=ι (Rg.acc HWB.out hB);refine ⟨_,rfl,?_⟩;go_frame;clear hB;go_upto_region 29 with (fail);refine wp_region_list ?_;refine Rg.lm 83 (.slice (some ⟨sb,0,none⟩) T.length fc) ?_;go_frame;refine Rg.la 2 (.slice (some ⟨sb,0,none⟩) T.length fc) ?_;go_frame;refine Rg.la 3 (.int .i64 ((0:Nat):Int)) ?_;go_frame;go_wp2
        go_ret2
        refine ⟨KD.out,.inr ⟨HZ.out,D,gs,rfl,rfl,.inr (.inr ⟨htb.out,hD24,T',_,rfl,hT'.out.2.2,⟨hT'.out.1.nodup_iff.2 HALL.out.1,fun y=>hT'.out.1.mem_iff.trans (HALL.out.2 y)⟩,hT'.out.2.1⟩)⟩⟩
       case pos =>
        have HIT0:=ι hiT;have HI0:=ι (show i≤200000 by omega);clear hTm;go_upto_region 17 with (fail);refine wp_region_list ?_;refine Rg.lm 48 (.int .i64 ((i:Nat):Int)) ?_;go_frame;refine Rg.lm 49 (.slice fa T.length fc) ?_;go_frame;refine Rg.lr 50 (exec_len _ _ _ rfl Tryz.underlying27 _ _ _ rfl) ?_;go_frame;refine Rg.lr 51 (exec_bin (R:=.bool true) .lss _ _ _ rfl rfl rfl (b_lss _ (decide_eq_true (by omega)))) ?_;go_frame;go_upto_region 19 with (fail);refine wp_region_list ?_;refine Rg.lm 54 (.slice ba Bs.length bc) ?_;go_frame;refine Rg.lr 55 (exec_len _ _ _ rfl Tryz.underlying27 _ _ _ rfl) ?_;go_frame;refine Rg.lm 56 (.int .i64 ((0:Nat):Int)) ?_;go_frame;obtain ⟨x,hx⟩:∃ x,Hid (T[i]'hiT=x):=⟨_,ι rfl⟩;have HIX:=ι (show T[i]?=some x by rw [List.getElem?_eq_getElem hiT,hx.out]);have HGX:=ι ((AJ.out.rc x (by rw [← hx.out]; exact List.getElem_mem hiT)).inv (img_lt HGG.out)).2.1
        clear hx hi hiT HIT0;go_wp2
        go_loopw [7,56] (fun fv jv wr=>∃ (j:Nat) (F:Nat→Prop) (T:List (List Nat)),jv=.int .i64 ((j:Nat):Int)∧j≤Bs.length∧Hid (AlM w3 wr F mr fv (.slice ba Bs.length bc) T Bs)∧Hid (Bk.AJ D gs.length (img gs) Bs T i j)∧Hid (T[i]?=some x)) (fun _ jv _=>Bs.length - (intOf jv).toNat)
        case atStart=>exact ⟨0,_,_,rfl,Nat.zero_le _,AM,AJ,HIX⟩
        case round =>
         clear AM AJ HIX;obtain ⟨j,F,T,rfl,hj,AM,AJ,HIX⟩:=hrel;obtain ⟨fa,fc,hsh⟩:=AM.out.row.shape;rw [List.length_map] at hsh;subst hsh;generalize wr=wd at *;have HIT:=ι (List.getElem?_eq_some_iff.1 HIX.out).1;have HTX:=ι (show T[i]'HIT.out=x from (List.getElem?_eq_some_iff.1 HIX.out).2)
         by_cases hjB:j<Bs.length
         case neg =>
          have hi2:i≤200000:=HI0.out;go_upto_region 20 with (fail);refine wp_region_list ?_;refine Rg.lr 57 (exec_bin (R:=.bool false) .lss _ _ _ rfl rfl rfl (b_lss _ (decide_eq_false (by omega)))) ?_;go_frame;go_upto_region 18 with (fail);refine wp_region_list ?_;refine Rg.lm 52 (.int .i64 ((i:Nat):Int)) ?_;go_frame;refine Rg.lr 53 (exec_bin (R:=.int .i64 (((i+1):Nat):Int)) .add _ _ _ rfl rfl rfl (b_add _ (by omega) (by omega))) ?_;go_frame;refine Rg.la 10 (.int .i64 (((i+1):Nat):Int)) ?_;go_frame;go_wp2
          go_roundw
          case rel=>exact ⟨i+1,_,_,by go_num,HIT.out,AM,ι (AJ.out.next (by omega))⟩
          case measure=>simp [intOf]; have:=HI0.out; omega
         case pos =>
          obtain ⟨bb,bc2,bu,e1,e2,e3,e4,e5⟩:=AM.out.base.at (i:=j) (by rw [List.length_map]; exact hjB);rw [List.length_map] at e1
          injection e1 with e1 _ e6
          subst e1 e6;rw [List.getElem_map] at e5;obtain ⟨fb2,fc2,xu,d1,d2,d3,d4,d5⟩:=AM.out.row.at (i:=i) (by rw [List.length_map]; exact HIT.out);rw [List.length_map] at d1
          injection d1 with d1 _ d6
          subst d1 d6;rw [List.getElem_map,HTX.out] at d5;obtain ⟨b,hb⟩:∃ b,Hid (Bs[j]'hjB=b):=⟨_,ι rfl⟩;rw [hb.out] at e5;have HBJ:=ι (show Bs[j]?=some b by rw [List.getElem?_eq_getElem hjB,hb.out]);have HBP:=ι (BO2.out.2 j b HBJ.out);have CB:=ι (show CL wd bb (0+j) bu from ⟨by rw [Nat.zero_add]; exact e4,e3⟩);have CX:=ι (show CL wd fb2 (0+i) xu from ⟨by rw [Nat.zero_add]; exact d4,d3⟩);have XV:=ι (show FiW F wd xu x from ⟨d5⟩);have BV:=ι (show FiW F wd bu b from ⟨e5⟩);have GD:=ι (GB.out.below AM.out.bel);have HJ:=ι hjB;have hiT:i<T.length:=HIT.out
          have hbl2:Bs.length≤64:=by rw [HBL.out]; omega
          clear e2 e3 e4 e5 d2 d3 d4 d5;go_upto_region 20 with (fail);refine wp_region_list ?_;refine Rg.lr 57 (exec_bin (R:=.bool true) .lss _ _ _ rfl rfl rfl (b_lss _ (decide_eq_true (by omega)))) ?_;go_frame;go_upto_region 21 with (fail);refine wp_region_list ?_;refine Rg.lr 58 (exec_indexS slIntss _ _ rfl bb (0) (Bs.length) bc (j) rfl rfl hjB) ?_;go_frame;refine Rg.lr 59 (Rg.exec_load (v:=bu) _ _ rfl ⟨bb,0+j,none⟩ rfl (Rg.run_loadSl _ _ Tryz.underlying36 CB.out.cell)) ?_;go_frame;refine Rg.la 12 (bu) ?_;go_frame;go_upto_region 22 with (fail);have hV0:Below wd.heap.size wd wd.drew:=(Below.refl _ _).drew;replace AM:=ι (AM.out.up hV0);replace CB:=ι (CB.out.up hV0);replace CX:=ι (CX.out.up hV0);replace XV:=ι (XV.out.up hV0);replace BV:=ι (BV.out.up hV0);replace GD:=ι (GD.out.up hV0);generalize Fup F wd wd.drew=F51 at *;clear hV0;refine Rg.Any.begin (S:=Rg.Both 7 (fun _=>True) (fun W=>Below wd.drew.heap.size wd.drew W)) mix ?_
          generalize wd.drew=w171 at *;have hS:∀ (l:Array Bool) W,Below w171.heap.size w171 W→Rg.Both 7 (fun _=>True) (fun W=>Below w171.heap.size w171 W) l W:=fun l W h=>⟨.inr trivial,h⟩;have hI:Below w171.heap.size w171 w171:=Below.refl _ _;refine Rg.tg 0 7 (.agg #[.int .i64 ((D:Nat):Int),.slice ga (gs.map Ma.ofN).length gc]) 60 rfl rfl (Rg.yields_cell _ _ rfl rfl ⟨gb,0,none⟩ rfl (fun W hW=>run_loadG ((Below.cell (p:=⟨gb,0,none⟩) hW GD.out.lt).trans GD.out.c0) ((Below.cell (p:=⟨gb,1,none⟩) hW GD.out.lt).trans GD.out.c1))) (hS _ _ hI) ?_;go_frame;refine Rg.tm 1 7 (.slice (some ⟨fb2,0,none⟩) T.length fc) 61 (hS _ _ hI) ?_;go_frame;refine Rg.tm 2 7 (.int .i64 ((i:Nat):Int)) 62 (hS _ _ hI) ?_;go_frame;refine Rg.tg 3 7 (.pointer (some ⟨fb2,0+i,none⟩)) 63 rfl rfl (Rg.yields_index slIntss _ _ rfl rfl fb2 (0) (T.length) fc (i) rfl rfl hiT) (hS _ _ hI) ?_;go_frame
          refine Rg.tg 4 7 (xu) 64 rfl rfl (Rg.yields_cell _ _ rfl rfl ⟨fb2,0+i,none⟩ rfl (fun W hW=>Rg.run_loadSl _ _ Tryz.underlying36 ((Below.cell (p:=⟨fb2,0+i,none⟩) hW CX.out.lt).trans CX.out.cell))) (hS _ _ hI) ?_;go_frame;refine Rg.tm 5 7 (bu) 65 (hS _ _ hI) ?_;go_frame;refine Rg.Any.one (i:=6) (by kernel_rfl) (Rg.Any.ask (some 66) rfl rfl rfl _ _ (exec_fn3 89 _ _ _ _ rfl rfl rfl rfl (Hlcl5 _ _)) ?_);refine (bjoinedF D _ _ _ gs x b w171 hD1 hD2 GD.out.rows HGG.out (by omega) XV.out.np BV.out.np HGX.out HBP.out.len).mono ?_;rintro e1 w172 ⟨yb,y,rfl,hlr,hlab,hb⟩;have HYL:=ι hlab;have hyv:=hlr.fiw (F:=F51) (by omega);clear hlab hlr;have hI2_u:=Rg.acc hI hb;clear hI;replace AM:=ι (AM.out.up hb);replace CB:=ι (CB.out.up hb);replace CX:=ι (CX.out.up hb);replace XV:=ι (XV.out.up hb);replace BV:=ι (BV.out.up hb);replace GD:=ι (GD.out.up hb);have YV:=ι hyv
          generalize Fup F51 w171 w172=F52 at *;clear hb;refine ⟨_,rfl,(hS _ _ hI2_u),?_⟩;go_frame;refine Rg.Any.one (i:=7) (by kernel_rfl) (Rg.Any.run (some 13) rfl rfl rfl (Rg.xa (.slice (some ⟨yb,0,none⟩) D D) _ rfl rfl) (hS _ _ hI2_u) ?_);go_frame;refine Rg.Any.done (by kernel_rfl) ?_ _;clear hS hI2_u;clear hyv;have GKY:=ι (show GK D y from rgc_gk hD2 HYL.out.len HYL.out.rg)
          have GKT:=ι (show ∀ q∈T,GK D q from fun q hq=>by
           obtain ⟨_,q2,q3⟩:=(AJ.out.rc q hq).inv (img_lt HGG.out)
           exact rgc_gk hD2 q2 q3)
          clear CB CX XV BV GD;obtain ⟨bm,hbm⟩:∃ b,Hid (decide (y∈T)=b):=⟨_,ι rfl⟩
          cases bm
          case true =>
           skip
           go_upto_region 23 with (fail);refine wp_region_list ?_;refine Rg.lm 67 ((.map (some mr))) ?_;go_frame;refine Rg.lm 68 (.slice (some ⟨yb,0,none⟩) D D) ?_;go_frame;refine list_ask (some 69) rfl rfl _ _ (exec_fn1 88 _ _ rfl rfl (Hlcl3 _ _)) ?_;refine (bpacked_any _ y w172 (Rg.FI.ints YV.out.fi) (by rw [HYL.out.len]; exact hD2) GKY.out.2.2).mono ?_;rintro e1 w173 ⟨rfl,hb⟩;refine ⟨_,rfl,?_⟩;go_frame;replace AM:=ι (AM.out.up hb);replace YV:=ι (YV.out.up hb);generalize Fup F52 w172 w173=F53 at *;clear hb;refine Rg.lr 70 (Rg.exec_lookup _ _ _ _ rfl _ _ rfl rfl ((look_run AM.out.mp GKT.out GKY.out).trans (by rw [hbm.out]))) ?_;go_frame;refine Rg.lr 71 (exec_not _ _ true rfl rfl) ?_;go_frame;go_upto_region 26 with (fail);refine wp_region_list ?_;refine Rg.lr 79 (exec_bin (R:=.int .i64 (((j+1):Nat):Int)) .add _ _ _ rfl rfl rfl (b_add _ (by omega) (by omega))) ?_;go_frame
           refine Rg.lm 56 (.int .i64 (((j+1):Nat):Int)) ?_;go_frame;go_wp2
           go_roundw
           case rel=>exact ⟨j+1,_,_,by go_num,HJ.out,AM,ι (AJ.out.hit HIX.out HBJ.out HYL.out (of_decide_eq_true hbm.out)),HIX⟩
           case measure=>simp [intOf]; have:=HJ.out; omega
          case false =>
           skip
           go_upto_region 23 with (fail);refine wp_region_list ?_;refine Rg.lm 67 ((.map (some mr))) ?_;go_frame;refine Rg.lm 68 (.slice (some ⟨yb,0,none⟩) D D) ?_;go_frame;refine list_ask (some 69) rfl rfl _ _ (exec_fn1 88 _ _ rfl rfl (Hlcl3 _ _)) ?_;refine (bpacked_any _ y w172 (Rg.FI.ints YV.out.fi) (by rw [HYL.out.len]; exact hD2) GKY.out.2.2).mono ?_;rintro e1 w183 ⟨rfl,hb⟩;refine ⟨_,rfl,?_⟩;go_frame;replace AM:=ι (AM.out.up hb);replace YV:=ι (YV.out.up hb);generalize Fup F52 w172 w183=F53 at *;clear hb;refine Rg.lr 70 (Rg.exec_lookup _ _ _ _ rfl _ _ rfl rfl ((look_run AM.out.mp GKT.out GKY.out).trans (by rw [hbm.out]))) ?_;go_frame;refine Rg.lr 71 (exec_not _ _ false rfl rfl) ?_;go_frame;have hTm:=HBD.out T AJ.out.nd AJ.out.rc;have HTM:=ι hTm;clear hTm;go_upto_region 24 with (fail);refine wp_region_list ?_;refine Rg.lm 72 ((.map (some mr))) ?_;go_frame;refine Rg.lm 73 (.slice (some ⟨yb,0,none⟩) D D) ?_;go_frame
           refine list_ask (some 74) rfl rfl _ _ (exec_fn1 88 _ _ rfl rfl (Hlcl3 _ _)) ?_;refine (bpacked_any _ y w183 (Rg.FI.ints YV.out.fi) (by rw [HYL.out.len]; exact hD2) GKY.out.2.2).mono ?_;rintro e1 w184 ⟨rfl,hb⟩;refine ⟨_,rfl,?_⟩;go_frame;replace AM:=ι (AM.out.up hb);replace YV:=ι (YV.out.up hb);generalize Fup F53 w183 w184=F54 at *;clear hb;obtain ⟨X8,p1,a8,c8,Y8,p2,ham⟩:=AM.out.put GKT.out GKY.out (of_decide_eq_false hbm.out) YV.out.fi ⟨_,_,_,rfl⟩ (by have:=HTM.out; omega) 27;refine Rg.list_skip none rfl rfl (Rg.exec_mapUpdate _ _ _ _ rfl _ _ _ rfl rfl rfl p1) ?_;go_frame;go_upto_region 25 with (fail);refine wp_region_list ?_;refine Rg.lm 75 (.slice (some ⟨fb2,0,none⟩) T.length fc) ?_;go_frame;refine Rg.lm 76 (.slice (some ⟨yb,0,none⟩) D D) ?_;go_frame;refine Rg.lr 77 (Rg.exec_buildSlice _ _ _ rfl (.slice (some ⟨yb,0,none⟩) D D) rfl (run_build1L X8 _ ⟨_,_,_,rfl⟩)) ?_;go_frame
           refine Rg.lr 78 (Rg.exec_append _ _ _ rfl rfl rfl p2) ?_;go_frame;refine Rg.la 7 (.slice a8 (T.length+1) c8) ?_;go_frame;have AM9:=ι ham;have AJ9:=ι (AJ.out.new HIX.out HBJ.out HYL.out (of_decide_eq_false hbm.out) (p:=j+1) (by have:=HJ.out; have:=HBL.out; omega) HBP.out);have HIX9:=ι (show (T++[y])[i]?=some x by rw [List.getElem?_append_left HIT.out]; exact HIX.out);clear p1 p2 ham AM YV;go_upto_region 26 with (fail);refine wp_region_list ?_;refine Rg.lr 79 (exec_bin (R:=.int .i64 (((j+1):Nat):Int)) .add _ _ _ rfl rfl rfl (b_add _ (by omega) (by omega))) ?_;go_frame;refine Rg.lm 56 (.int .i64 (((j+1):Nat):Int)) ?_;go_frame;go_wp2
           go_roundw
           case rel=>exact ⟨j+1,_,_,by go_num,HJ.out,AM9,AJ9,HIX9⟩
           case measure=>simp [intOf]; have:=HJ.out; omega

theorem two12_any (w:World):Calls Tryz.prog 84 #[] w (GPost 4 [[1,0,2,3],[0,1,3,2]] w):=by
 go_enter Tryz.func84,Tryz.ntmps84
 go_upto_region 1 with (fail);generalize hW:w.alloc (.cells #[.int .i64 0,.slice none 0 0] 24)=W0
 have hsz:W0.heap.size=w.heap.size+1:=by rw [← hW]; simp
 have hbW:Below w.heap.size w W0:=by rw [← hW]; exact (Below.refl _ _).alloc (Nat.le_refl _) _
 have hc1:W0.cell? ⟨w.heap.size,0,none⟩=some (.int .i64 0):=by rw [← hW,Rg.cellNew]; rfl
 have hc2:W0.cell? ⟨w.heap.size,1,none⟩=some (.slice none 0 0):=by rw [← hW,Rg.cellNew]; rfl
 have hf1:∀ o,W0.frozen? ⟨w.heap.size,o,none⟩=false:=fun o=>by rw [← hW]; exact frozenNewN _ _ _ 0 _
 clear hW;refine wp_region_list ?_;have i1:=ints_new W0 3 [1,0,2,3] (by decide);have b1:Below W0.heap.size W0 _:=(Below.refl W0.heap.size W0).alloc (Nat.le_refl _) (.cells (([1,0,2,3]:List Int).map (Value.int .i64)).toArray 3);refine Rg.lr 1 (exec_flat _ _ 4 _ rfl [1,0,2,3] Tryz.underlying51 szInt zInt rfl (by decide) (by decide) rfl) ?_;go_frame;generalize W0.alloc (.cells (([1,0,2,3]:List Int).map (Value.int .i64)).toArray 3)=W1 at *;have i2:=ints_new W1 3 [0,1,3,2] (by decide);have b2:Below W1.heap.size W1 _:=(Below.refl W1.heap.size W1).alloc (Nat.le_refl _) (.cells (([0,1,3,2]:List Int).map (Value.int .i64)).toArray 3);refine Rg.lr 2 (exec_flat _ _ 4 _ rfl [0,1,3,2] Tryz.underlying51 szInt zInt rfl (by decide) (by decide) rfl) ?_;go_frame;generalize W1.alloc (.cells (([0,1,3,2]:List Int).map (Value.int .i64)).toArray 3)=W2 at *
 have g3:=rowsF_new (B:=w.heap.size+1) (w:=W2) 51 [.slice (some ⟨W0.heap.size,0,none⟩) 4 4,.slice (some ⟨W1.heap.size,0,none⟩) 4 4] [[1,0,2,3],[0,1,3,2]] rfl (by simp) (by
  have s1:=b1.size;have s2:=b2.size;intro i h h2
  match i,h,h2 with
  | 0,_,_=>exact ⟨(i1.below b2),(Rg.Fresh.mk _ _ _ _).mono (by omega)⟩
  | 1,_,_=>exact ⟨i2,(Rg.Fresh.mk _ _ _ _).mono (by omega)⟩) (by have s1:=b1.size; have s2:=b2.size; omega)
 have bz:Below W2.heap.size W2 _:=(Below.refl W2.heap.size W2).alloc (Nat.le_refl _) (.cells #[.slice (some ⟨W0.heap.size,0,none⟩) 4 4,.slice (some ⟨W1.heap.size,0,none⟩) 4 4] 51);refine Rg.lr 3 (exec_buildP (u1:=.slice (some ⟨W0.heap.size,0,none⟩) 4 4) (u2:=.slice (some ⟨W1.heap.size,0,none⟩) 4 4) _ _ rfl rfl rfl (run_buildP2 _ _ _ ⟨_,_,_,rfl⟩ ⟨_,_,_,rfl⟩)) ?_;go_frame;have hb3:=(Rg.acc b1 (Rg.acc b2 bz));clear bz b1 i1 b2 i2;have g4:RowsF (w.heap.size+1) (W2.alloc (.cells #[.slice (some ⟨W0.heap.size,0,none⟩) 4 4,.slice (some ⟨W1.heap.size,0,none⟩) 4 4] 51)) (.slice (some ⟨W2.heap.size,0,none⟩) 2 2) [[1,0,2,3],[0,1,3,2]]:=g3;clear g3;generalize W2.alloc (.cells #[.slice (some ⟨W0.heap.size,0,none⟩) 4 4,.slice (some ⟨W1.heap.size,0,none⟩) 4 4] 51)=Z at *;refine Rg.lr 4 (exec_buildG (d:=4) _ _ rfl rfl rfl) ?_;go_frame;obtain ⟨kc,kf⟩:=Rg.bcell hb3
 have lt1:w.heap.size<W0.heap.size:=by omega
 have r0:=(kc _ 0 lt1).trans hc1;have r1:=(kc _ 1 lt1).trans hc2;have rf:=fun o=>(kf _ o lt1).trans (hf1 o);obtain ⟨p0,p1,p2⟩:=group_set (.int .i64 4) (.slice (some ⟨W2.heap.size,0,none⟩) 2 2) r0 r1 (Rg.acc hbW hb3) (by omega);have hR:=((g4.set w.heap.size 0 (.int .i64 4) (by omega)).set w.heap.size 1 (.slice (some ⟨W2.heap.size,0,none⟩) 2 2) (by omega)).mono (B':=w.heap.size) (by omega);refine Rg.list_skip none rfl rfl (Rg.exec_store _ _ _ rfl _ rfl _ rfl (run_storeG 4 _ 2 2 r0 r1 (rf 0) (rf 1))) ?_;go_frame;generalize (Z.setCell ⟨w.heap.size,0,none⟩ (.int .i64 4)).setCell ⟨w.heap.size,1,none⟩ (.slice (some ⟨W2.heap.size,0,none⟩) 2 2)=W6 at *;have H:=ι (And.intro p0 (And.intro p1 (And.intro p2 hR)));clear hc1 hc2 hf1 kc kf r0 r1 rf p0 p1 p2 hR g4;go_wp2;exact bodyPost_ret (results_cellG rfl _ rfl H.out.1 H.out.2.1) rfl ⟨_,_,_,rfl,H.out.2.2.2,H.out.2.2.1⟩
theorem four12_any (w:World):Calls Tryz.prog 82 #[] w (GPost 4 [[1,2,3,0],[1,0,2,3]] w):=by
 go_enter Tryz.func82,Tryz.ntmps82
 go_upto_region 1 with (fail);generalize hW:w.alloc (.cells #[.int .i64 0,.slice none 0 0] 24)=W0
 have hsz:W0.heap.size=w.heap.size+1:=by rw [← hW]; simp
 have hbW:Below w.heap.size w W0:=by rw [← hW]; exact (Below.refl _ _).alloc (Nat.le_refl _) _
 have hc1:W0.cell? ⟨w.heap.size,0,none⟩=some (.int .i64 0):=by rw [← hW,Rg.cellNew]; rfl
 have hc2:W0.cell? ⟨w.heap.size,1,none⟩=some (.slice none 0 0):=by rw [← hW,Rg.cellNew]; rfl
 have hf1:∀ o,W0.frozen? ⟨w.heap.size,o,none⟩=false:=fun o=>by rw [← hW]; exact frozenNewN _ _ _ 0 _
 clear hW;refine wp_region_list ?_;have i1:=ints_new W0 3 [1,2,3,0] (by decide);have b1:Below W0.heap.size W0 _:=(Below.refl W0.heap.size W0).alloc (Nat.le_refl _) (.cells (([1,2,3,0]:List Int).map (Value.int .i64)).toArray 3);refine Rg.lr 1 (exec_flat _ _ 4 _ rfl [1,2,3,0] Tryz.underlying51 szInt zInt rfl (by decide) (by decide) rfl) ?_;go_frame;generalize W0.alloc (.cells (([1,2,3,0]:List Int).map (Value.int .i64)).toArray 3)=W1 at *;have i2:=ints_new W1 3 [1,0,2,3] (by decide);have b2:Below W1.heap.size W1 _:=(Below.refl W1.heap.size W1).alloc (Nat.le_refl _) (.cells (([1,0,2,3]:List Int).map (Value.int .i64)).toArray 3);refine Rg.lr 2 (exec_flat _ _ 4 _ rfl [1,0,2,3] Tryz.underlying51 szInt zInt rfl (by decide) (by decide) rfl) ?_;go_frame;generalize W1.alloc (.cells (([1,0,2,3]:List Int).map (Value.int .i64)).toArray 3)=W2 at *
 have g3:=rowsF_new (B:=w.heap.size+1) (w:=W2) 51 [.slice (some ⟨W0.heap.size,0,none⟩) 4 4,.slice (some ⟨W1.heap.size,0,none⟩) 4 4] [[1,2,3,0],[1,0,2,3]] rfl (by simp) (by
  have s1:=b1.size;have s2:=b2.size;intro i h h2
  match i,h,h2 with
  | 0,_,_=>exact ⟨(i1.below b2),(Rg.Fresh.mk _ _ _ _).mono (by omega)⟩
  | 1,_,_=>exact ⟨i2,(Rg.Fresh.mk _ _ _ _).mono (by omega)⟩) (by have s1:=b1.size; have s2:=b2.size; omega)
 have bz:Below W2.heap.size W2 _:=(Below.refl W2.heap.size W2).alloc (Nat.le_refl _) (.cells #[.slice (some ⟨W0.heap.size,0,none⟩) 4 4,.slice (some ⟨W1.heap.size,0,none⟩) 4 4] 51);refine Rg.lr 3 (exec_buildP (u1:=.slice (some ⟨W0.heap.size,0,none⟩) 4 4) (u2:=.slice (some ⟨W1.heap.size,0,none⟩) 4 4) _ _ rfl rfl rfl (run_buildP2 _ _ _ ⟨_,_,_,rfl⟩ ⟨_,_,_,rfl⟩)) ?_;go_frame;have hb3:=(Rg.acc b1 (Rg.acc b2 bz));clear bz b1 i1 b2 i2;have g4:RowsF (w.heap.size+1) (W2.alloc (.cells #[.slice (some ⟨W0.heap.size,0,none⟩) 4 4,.slice (some ⟨W1.heap.size,0,none⟩) 4 4] 51)) (.slice (some ⟨W2.heap.size,0,none⟩) 2 2) [[1,2,3,0],[1,0,2,3]]:=g3;clear g3;generalize W2.alloc (.cells #[.slice (some ⟨W0.heap.size,0,none⟩) 4 4,.slice (some ⟨W1.heap.size,0,none⟩) 4 4] 51)=Z at *;refine Rg.lr 4 (exec_buildG (d:=4) _ _ rfl rfl rfl) ?_;go_frame;obtain ⟨kc,kf⟩:=Rg.bcell hb3
 have lt1:w.heap.size<W0.heap.size:=by omega
 have r0:=(kc _ 0 lt1).trans hc1;have r1:=(kc _ 1 lt1).trans hc2;have rf:=fun o=>(kf _ o lt1).trans (hf1 o);obtain ⟨p0,p1,p2⟩:=group_set (.int .i64 4) (.slice (some ⟨W2.heap.size,0,none⟩) 2 2) r0 r1 (Rg.acc hbW hb3) (by omega);have hR:=((g4.set w.heap.size 0 (.int .i64 4) (by omega)).set w.heap.size 1 (.slice (some ⟨W2.heap.size,0,none⟩) 2 2) (by omega)).mono (B':=w.heap.size) (by omega);refine Rg.list_skip none rfl rfl (Rg.exec_store _ _ _ rfl _ rfl _ rfl (run_storeG 4 _ 2 2 r0 r1 (rf 0) (rf 1))) ?_;go_frame;generalize (Z.setCell ⟨w.heap.size,0,none⟩ (.int .i64 4)).setCell ⟨w.heap.size,1,none⟩ (.slice (some ⟨W2.heap.size,0,none⟩) 2 2)=W6 at *;have H:=ι (And.intro p0 (And.intro p1 (And.intro p2 hR)));clear hc1 hc2 hf1 kc kf r0 r1 rf p0 p1 p2 hR g4;go_wp2;exact bodyPost_ret (results_cellG rfl _ rfl H.out.1 H.out.2.1) rfl ⟨_,_,_,rfl,H.out.2.2.2,H.out.2.2.1⟩
theorem Max_any (v:Value) (l:List Nat) (w:World) (h:Rg.NP w v l) (h0:1≤l.length) (hl:l.length≤1000) (hx:∀ x∈l,x≤1000) :
  Calls Tryz.prog 95 #[v] w fun e w'=>∃ m:Nat,e=.returned (.int .i64 ((m:Nat):Int))∧m∈l∧(∀ x∈l,x≤m)∧Below w.heap.size w w':=by
 have HX:=ι hx;have HV:=ι (NpW.mk h)
 obtain ⟨b,o,c,rfl,hb,hcell⟩:∃ b o c,v=.slice (some ⟨b,o,none⟩) l.length c∧b<w.heap.size∧∀ i (hi:i<l.length),w.cell? ⟨b,o+i,none⟩=some (.int .i64 ((l[i]:Nat):Int)):=by
  obtain ⟨a,c,rfl,hc,hm,_,hcell⟩:=h.shape;obtain ⟨b,o,rfl,hb,hr⟩:=hcell (by omega);exact ⟨b,o,c,rfl,hb,hr⟩
 have HC:=ι (show ∀ i (hi:i<l.length),CL w b (o+i) (.int .i64 ((l[i]:Nat):Int)) from fun i hi=>⟨hcell i hi,hb⟩);clear h hx hcell hb;have K:=ι (Below.refl w.heap.size w);obtain ⟨x0,hx0⟩:∃ x,Hid (l[0]'h0=x):=⟨_,ι rfl⟩;have C0:=ι (show CL w b (o+0) (.int .i64 ((x0:Nat):Int)) by rw [← hx0.out]; exact HC.out 0 h0)
 go_enter Tryz.func95,Tryz.ntmps95
 go_upto_region 0 with (fail);refine wp_region_list ?_;refine Rg.la 2 (.int .i64 ((0:Nat):Int)) ?_;go_frame;go_upto_region 1 with (fail);refine wp_region_list ?_;refine Rg.lm 5 (.slice (some ⟨b,o,none⟩) l.length c) ?_;go_frame;refine Rg.lr 6 (exec_len _ _ _ rfl Tryz.underlying36 _ _ _ rfl) ?_;go_frame;refine Rg.lr 7 (exec_bin (R:=.bool false) .lss _ _ _ rfl rfl rfl (b_lss _ (decide_eq_false (by omega)))) ?_;go_frame;go_upto_region 3 with (fail);refine wp_region_list ?_;refine Rg.lm 9 (.slice (some ⟨b,o,none⟩) l.length c) ?_;go_frame;refine Rg.lr 10 (exec_indexS slInts _ _ rfl b (o) (l.length) c (0) rfl rfl h0) ?_;go_frame;refine Rg.lr 11 (Rg.exec_load (v:=.int .i64 ((x0:Nat):Int)) _ _ rfl ⟨b,o+0,none⟩ rfl (run_loadInt C0.out.cell)) ?_;go_frame;refine Rg.la 3 (.int .i64 ((x0:Nat):Int)) ?_;go_frame;go_upto_region 4 with (fail);refine wp_region_list ?_;refine Rg.la 4 (.int .i64 ((1:Nat):Int)) ?_;go_frame
 have MX:=ι (show x0∈l.take 1∧∀ x∈l.take 1,x≤x0 by
  have e:l.take 1=[x0]:=by
   rw [List.take_succ_eq_append_getElem h0,List.take_zero,hx0.out]; rfl
  rw [e]; exact ⟨List.mem_singleton.2 rfl,fun x hx=>by rw [List.mem_singleton.1 hx]; exact Nat.le_refl _⟩)
 clear C0;go_wp2
 go_loopw [3,4] (fun mv iv wr=>∃ m i:Nat,mv=.int .i64 ((m:Nat):Int)∧iv=.int .i64 ((i:Nat):Int)∧i≤l.length∧1≤i∧Hid (m∈l.take i∧∀ x∈l.take i,x≤m)∧Hid (Below w.heap.size w wr)) (fun _ iv _=>l.length - (intOf iv).toNat)
 case atStart=>exact ⟨x0,1,rfl,rfl,h0,Nat.le_refl _,MX,K⟩
 case round =>
  clear MX K;obtain ⟨m,i,rfl,rfl,hi,hi1,MX,K⟩:=hrel;generalize wr=wd at *
  by_cases hil:i<l.length
  case neg =>
   obtain rfl:i=l.length:=by omega
   go_upto_region 5 with (fail);refine wp_region_list ?_;refine Rg.lm 12 (.int .i64 ((l.length:Nat):Int)) ?_;go_frame;refine Rg.lm 13 (.slice (some ⟨b,o,none⟩) l.length c) ?_;go_frame;refine Rg.lr 14 (exec_len _ _ _ rfl Tryz.underlying36 _ _ _ rfl) ?_;go_frame;refine Rg.lr 15 (exec_bin (R:=.bool false) .lss _ _ _ rfl rfl rfl (b_lss _ (decide_eq_false (by omega)))) ?_;go_frame;go_upto_region 8 with (fail);refine wp_region_list ?_;refine Rg.lm 24 (.int .i64 ((m:Nat):Int)) ?_;go_frame;refine Rg.la 2 (.int .i64 ((m:Nat):Int)) ?_;go_frame;go_wp2;go_ret;obtain ⟨m1,m2⟩:=MX.out;rw [List.take_length] at m1 m2;exact ⟨m,rfl,m1,m2,K.out⟩
  case pos =>
   obtain ⟨t,ht⟩:∃ t,Hid (l[i]'hil=t):=⟨_,ι rfl⟩;have CT:=ι (show CL wd b (o+i) (.int .i64 ((t:Nat):Int)) by rw [← ht.out]; exact (HC.out i hil).up K.out);obtain ⟨q,hq⟩:∃ q,Hid ((if m<t then t else m)=q):=⟨_,ι rfl⟩
   have HQ:=ι (show (if ((m:Nat):Int)<((t:Nat):Int) then ((t:Nat):Int) else ((m:Nat):Int))=((q:Nat):Int) by
    rw [← hq.out]
    by_cases h:m<t
    ·rw [if_pos h,if_pos (by omega)]
    ·rw [if_neg h,if_neg (by omega)])
   have MX2:=ι (show q∈l.take (i+1)∧∀ x∈l.take (i+1),x≤q by
    obtain ⟨m1,m2⟩:=MX.out;rw [List.take_succ_eq_append_getElem hil,ht.out,← hq.out]
    by_cases h:m<t
    ·rw [if_pos h]
     refine ⟨List.mem_append_right _ (List.mem_singleton.2 rfl),fun x hx=>?_⟩
     rcases List.mem_append.1 hx with hx | hx
     ·have:=m2 x hx; omega
     ·rw [List.mem_singleton.1 hx]; exact Nat.le_refl _
    ·rw [if_neg h]
     refine ⟨List.mem_append_left _ m1,fun x hx=>?_⟩
     rcases List.mem_append.1 hx with hx | hx
     ·exact m2 x hx
     ·rw [List.mem_singleton.1 hx]; omega)
   have hil2:=ι hil;go_upto_region 5 with (fail);refine wp_region_list ?_;refine Rg.lm 12 (.int .i64 ((i:Nat):Int)) ?_;go_frame;refine Rg.lm 13 (.slice (some ⟨b,o,none⟩) l.length c) ?_;go_frame;refine Rg.lr 14 (exec_len _ _ _ rfl Tryz.underlying36 _ _ _ rfl) ?_;go_frame;refine Rg.lr 15 (exec_bin (R:=.bool true) .lss _ _ _ rfl rfl rfl (b_lss _ (decide_eq_true (by omega)))) ?_;go_frame;go_upto_region 7 with (fail);refine wp_region_list ?_;refine Rg.lm 18 (.int .i64 ((m:Nat):Int)) ?_;go_frame;refine Rg.lm 19 (.slice (some ⟨b,o,none⟩) l.length c) ?_;go_frame;refine Rg.lm 20 (.int .i64 ((i:Nat):Int)) ?_;go_frame;refine Rg.lr 21 (exec_indexS slInts _ _ rfl b (o) (l.length) c (i) rfl rfl hil) ?_;go_frame;refine Rg.lr 22 (Rg.exec_load (v:=.int .i64 ((t:Nat):Int)) _ _ rfl ⟨b,o+i,none⟩ rfl (run_loadInt CT.out.cell)) ?_;go_frame;refine Rg.lr 23 (exec_maxE (r:=((q:Nat):Int)) _ _ _ rfl rfl rfl HQ.out) ?_;go_frame
   refine Rg.la 3 (.int .i64 ((q:Nat):Int)) ?_;go_frame;go_upto_region 6 with (fail);refine wp_region_list ?_;refine Rg.lm 16 (.int .i64 ((i:Nat):Int)) ?_;go_frame;refine Rg.lr 17 (exec_bin (R:=.int .i64 (((i+1):Nat):Int)) .add _ _ _ rfl rfl rfl (b_add _ (by omega) (by omega))) ?_;go_frame;refine Rg.la 4 (.int .i64 (((i+1):Nat):Int)) ?_;go_frame;go_wp2
   go_roundw
   case rel=>exact ⟨q,i+1,rfl,by go_num,hil2.out,by omega,MX2,K⟩
   case measure=>simp [intOf]; have:=hil2.out; omega
def cyl (n:Nat):List Nat:=(List.range n).map fun i=>(i+1) % n
structure ZG (w:World) (b:Nat):Prop where
 lt:b<w.heap.size
 c0:w.cell? ⟨b,0,none⟩=some (.int .i64 0)
 c1:w.cell? ⟨b,1,none⟩=some (.slice none 0 0)
 fr:∀ o,w.frozen? ⟨b,o,none⟩=false
theorem ZG.kp {M:Nat→Prop} {w w':World} {b:Nat} (h:ZG w b) (hk:Rg.Kp M w w') (hM:¬ M b):ZG w' b :=
 ⟨Nat.lt_of_lt_of_le h.lt hk.size,(World.cell?_of_block (a:=⟨b,0,none⟩) (hk.block b h.lt hM)).trans h.c0,(World.cell?_of_block (a:=⟨b,1,none⟩) (hk.block b h.lt hM)).trans h.c1,fun o=>(World.frozen?_of_block (a:=⟨b,o,none⟩) (hk.block b h.lt hM)).trans (h.fr o)⟩
theorem ZG.below {w w':World} {b:Nat} (h:ZG w b) (hb:Below w.heap.size w w'):ZG w' b:=h.kp (M:=fun _=>False) (Rg.Kp.of_below hb) id
theorem ZG.new (w:World):ZG (w.alloc (.cells #[.int .i64 0,.slice none 0 0] 24)) w.heap.size:=⟨by simp,by rw [Rg.cellNew]; rfl,by rw [Rg.cellNew]; rfl,fun o=>frozenNewN _ _ _ 0 _⟩
theorem cyclic_any (n:Nat) (w:World) (h1:1≤n) (hn:n≤1000) :
  Calls Tryz.prog 81 #[.int .i64 ((n:Nat):Int)] w fun e w'=>∃ a c,e=.returned (.agg #[.int .i64 ((n:Nat):Int),.slice a 1 c])∧Rg.Rows w' (.slice a 1 c) ([cyl n].map Ma.ofN)∧Below w.heap.size w w':=by
 go_enter Tryz.func81,Tryz.ntmps81
 go_upto_region 1 with (fail);have hzg:=ZG.new w;have hbz:Below w.heap.size w (w.alloc (.cells #[.int .i64 0,.slice none 0 0] 24)):=(Below.refl _ _).alloc (Nat.le_refl _) _;obtain ⟨rb,hrb⟩:∃ b,w.heap.size=b:=⟨_,rfl⟩;rw [hrb] at hzg ⊢;have HRB:=ι hrb;generalize w.alloc (.cells #[.int .i64 0,.slice none 0 0] 24)=w0 at *;have ZF:=ι hzg;have K:=ι hbz;clear hzg hbz hrb;refine wp_region_list ?_;refine Rg.lm 5 (.int .i64 ((n:Nat):Int)) ?_;go_frame;refine list_ask (some 6) rfl rfl _ _ (exec_fn1 101 _ _ rfl rfl (Zkcl0 _ _)) ?_;refine (kitOne_row n w0 h1 hn).mono ?_;rintro e1 w1 ⟨g,cap,rfl,hg1,hg2,hg3,hg4,hb⟩;have HC:=ι (And.intro hg2 hg3);have HGL:=ι (show rb<g from Nat.lt_of_lt_of_le ZF.out.lt hg1);clear hg1 hg2 hg3;refine ⟨_,rfl,?_⟩;go_frame;replace ZF:=ι (ZF.out.below hb);replace K:=ι (Rg.acc K.out hb);clear hb;have RW0:=ι hg4;refine Rg.la 3 (.slice (some ⟨g,0,none⟩) n cap) ?_;go_frame
 clear hg4;go_upto_region 2 with (fail);refine wp_region_list ?_;refine Rg.la 4 (.int .i64 ((0:Nat):Int)) ?_;go_frame;have RW:=ι (RW0.out.congr (f':=fun i=>if i<0 then (((i+1) % n:Nat):Int) else ((i:Nat):Int)) (fun i _=>(if_neg (Nat.not_lt_zero i)).symm));clear RW0;go_wp2
 go_loopw [4] (fun kv wr=>∃ k:Nat,kv=.int .i64 ((k:Nat):Int)∧k≤n∧Hid (RwAt wr g n (fun i=>if i<k then (((i+1) % n:Nat):Int) else ((i:Nat):Int)))∧Hid (ZG wr rb)∧Hid (Below w.heap.size w wr)) (fun kv _=>n - (intOf kv).toNat)
 case atStart=>exact ⟨0,rfl,Nat.zero_le _,RW,ZF,K⟩
 case round =>
  clear RW ZF K;obtain ⟨k,rfl,hk,RW,ZF,K⟩:=hrel;generalize wr=wd at *
  by_cases hkn:k<n
  case pos =>
   have HKN:=ι hkn
   have C1:=ι (show wd.cell? ⟨g,0+k,none⟩=some (.int .i64 ((k:Nat):Int)) by
    rw [Nat.zero_add];have h:=RW.out.2.1 k hkn
    dsimp only at h
    rwa [if_neg (Nat.lt_irrefl _)] at h)
   have F1:=ι (show wd.frozen? ⟨g,0+k,none⟩=false by rw [Nat.zero_add]; exact RW.out.2.2 k);obtain ⟨q,hq⟩:∃ q,Hid ((k+1) % n=q):=⟨_,ι rfl⟩;have HQ:=ι (show (((k+1:Nat):Nat):Int).tmod ((n:Nat):Int)=((q:Nat):Int) by rw [← hq.out]; exact Int.ofNat_tmod (k+1) n)
   have hqn:q<n:=by rw [← hq.out]; exact Nat.mod_lt _ (by omega)
   go_upto_region 3 with (fail);refine wp_region_list ?_;refine Rg.lm 7 (.int .i64 ((k:Nat):Int)) ?_;go_frame;refine Rg.lm 8 (.int .i64 ((n:Nat):Int)) ?_;go_frame;refine Rg.lr 9 (exec_bin (R:=.bool true) .lss _ _ _ rfl rfl rfl (b_lss _ (decide_eq_true (by omega)))) ?_;go_frame;go_upto_region 5 with (fail);refine wp_region_list ?_;refine Rg.lm 12 (.slice (some ⟨g,0,none⟩) n cap) ?_;go_frame;refine Rg.lm 13 (.int .i64 ((k:Nat):Int)) ?_;go_frame;refine Rg.lm 14 (.int .i64 ((k:Nat):Int)) ?_;go_frame;refine Rg.lr 15 (exec_bin (R:=.int .i64 (((k+1):Nat):Int)) .add _ _ _ rfl rfl rfl (b_add _ (by omega) (by omega))) ?_;go_frame;refine Rg.lm 16 (.int .i64 ((n:Nat):Int)) ?_;go_frame;refine Rg.lr 17 (exec_bin (R:=.int .i64 ((q:Nat):Int)) .rem _ _ _ rfl rfl rfl (b_rem _ (by omega) HQ.out (by omega))) ?_;go_frame;refine Rg.lr 18 (exec_indexS slPerm _ _ rfl g (0) (n) cap (k) rfl rfl hkn) ?_;go_frame
   refine Rg.list_skip none rfl rfl (Rg.exec_store _ _ _ rfl _ rfl _ rfl (run_storeIntB _ C1.out F1.out)) ?_;go_frame;have hrs:=RW.out.set k ((q:Nat):Int) hkn;have hkp:Rg.Kp (fun z=>z=g) wd (wd.setCell ⟨g,0+k,none⟩ (.int .i64 ((q:Nat):Int))):=Rg.Kp.of_setCell rfl;have hzg:=ZF.out.kp hkp (fun e=>by have:=HGL.out; omega);have hK:=Rg.Kp.below K.out hkp (fun z e=>by have:=HRB.out; have:=HGL.out; omega);have hz0:0+k=k:=Nat.zero_add k
   have hrs2:RwAt (wd.setCell ⟨g,0+k,none⟩ (.int .i64 ((q:Nat):Int))) g n (fun i=>if i<k+1 then (((i+1) % n:Nat):Int) else ((i:Nat):Int)):=by
    rw [hz0];refine hrs.congr fun i hi=>?_
    by_cases e:i=k
    ·subst e; rw [if_pos rfl,if_pos (by omega),hq.out]
    ·rw [if_neg e]
     by_cases e2:i<k
     ·rw [if_pos e2,if_pos (by omega)]
     ·rw [if_neg e2,if_neg (by omega)]
   generalize wd.setCell ⟨g,0+k,none⟩ (.int .i64 ((q:Nat):Int))=w88 at *;replace RW:=ι hrs2;replace ZF:=ι hzg;replace K:=ι hK;clear hrs hkp hzg hK hz0 hrs2 C1 F1;go_upto_region 4 with (fail);refine wp_region_list ?_;refine Rg.lm 10 (.int .i64 ((k:Nat):Int)) ?_;go_frame;refine Rg.lr 11 (exec_bin (R:=.int .i64 (((k+1):Nat):Int)) .add _ _ _ rfl rfl rfl (b_add _ (by omega) (by omega))) ?_;go_frame;refine Rg.la 4 (.int .i64 (((k+1):Nat):Int)) ?_;go_frame;go_wp2
   go_roundw
   case rel=>exact ⟨k+1,by go_num,HKN.out,RW,ZF,K⟩
   case measure=>simp [intOf]; have:=HKN.out; omega
  case neg =>
   obtain rfl:n=k:=by omega
   have RV:=ι (show Rg.Ints wd (.slice (some ⟨g,0,none⟩) n cap) (Ma.ofN (cyl n)) from by
    have h:=(RW.out.congr (f':=fun i=>(((i+1) % n:Nat):Int)) (fun i hi=>if_pos hi)).ints HC.out.1 HC.out.2 hn
    have e:(List.range n).map (fun i=>(((i+1) % n:Nat):Int))=Ma.ofN (cyl n):=by unfold Ma.ofN cyl; rw [List.map_map]; rfl
    rwa [e] at h)
   go_upto_region 3 with (fail);refine wp_region_list ?_;refine Rg.lm 7 (.int .i64 ((n:Nat):Int)) ?_;go_frame;refine Rg.lm 8 (.int .i64 ((n:Nat):Int)) ?_;go_frame;refine Rg.lr 9 (exec_bin (R:=.bool false) .lss _ _ _ rfl rfl rfl (b_lss _ (decide_eq_false (by omega)))) ?_;go_frame
   have hro:RowsF (rb+1) (wd.alloc (.cells #[.slice (some ⟨g,0,none⟩) n cap] 51)) (.slice (some ⟨wd.heap.size,0,none⟩) 1 1) [Ma.ofN (cyl n)]:=rowsF_new (B:=rb+1) (w:=wd) 51 [.slice (some ⟨g,0,none⟩) n cap] [Ma.ofN (cyl n)] rfl (by simp) (fun i h h2=>by
    match i,h,h2 with
    | 0,_,_=>exact ⟨RV.out,(Rg.Fresh.mk _ _ _ _).mono (by have:=HGL.out; omega)⟩) (by have:=ZF.out.lt; omega)
   have hb9:=(Below.refl wd.heap.size wd).alloc (Nat.le_refl _) (.cells #[.slice (some ⟨g,0,none⟩) n cap] 51);go_upto_region 6 with (fail);refine wp_region_list ?_;refine Rg.lm 19 (.int .i64 ((n:Nat):Int)) ?_;go_frame;refine Rg.lm 20 (.slice (some ⟨g,0,none⟩) n cap) ?_;go_frame;refine Rg.lr 21 (Rg.exec_buildSlice _ _ _ rfl (.slice (some ⟨g,0,none⟩) n cap) rfl (run_build1P wd _ ⟨_,_,_,rfl⟩)) ?_;go_frame;have hb:=hb9;generalize wd.alloc (.cells #[.slice (some ⟨g,0,none⟩) n cap] 51)=w61 at *;replace ZF:=ι (ZF.out.below hb);replace K:=ι (Rg.acc K.out hb);clear hb;have RO:=ι hro;clear hro hb9;refine Rg.lr 22 (exec_buildG (d:=((n:Nat):Int)) _ _ rfl rfl rfl) ?_;go_frame;refine Rg.list_skip none rfl rfl (Rg.exec_store _ _ _ rfl _ rfl _ rfl (run_storeG _ _ 1 1 ZF.out.c0 ZF.out.c1 (ZF.out.fr 0) (ZF.out.fr 1))) ?_;go_frame;obtain ⟨p0,p1,p2⟩:=group_set (.int .i64 ((n:Nat):Int)) (.slice (some ⟨wd.heap.size,0,none⟩) 1 1) ZF.out.c0 ZF.out.c1 K.out (Nat.le_of_eq HRB.out)
   have hR:=(RO.out.set rb 0 (.int .i64 ((n:Nat):Int)) (by omega)).set rb 1 (.slice (some ⟨wd.heap.size,0,none⟩) 1 1) (by omega);generalize (w61.setCell ⟨rb,0,none⟩ (.int .i64 ((n:Nat):Int))).setCell ⟨rb,1,none⟩ (.slice (some ⟨wd.heap.size,0,none⟩) 1 1)=W6 at *;have H:=ι (And.intro p0 (And.intro p1 p2));have HRO:=ι hR.rows;clear p0 p1 p2 hR;go_wp2;refine bodyPost_ret (results_cellG rfl _ rfl H.out.1 H.out.2.1) rfl ⟨_,_,rfl,HRO.out,H.out.2.2⟩
end Go.Proofs.YthehbckogieimaaGreat

namespace Go.Proofs.Bk
variable {n m:Nat} {f:Nat→Nat→Nat}
def rgcB:List Nat→Nat→Bool
 | [],_=>true
 | x :: L,k=>decide (x≤k) && rgcB L (if x=k then k+1 else k)
theorem rgcB_ok:∀ {L:List Nat} {k:Nat},rgcB L k=true→rgc L k
 | [],_,_=>trivial
 | x :: L,k,h=>by
  unfold rgcB at h;rw [Bool.and_eq_true] at h;exact ⟨of_decide_eq_true h.1,rgcB_ok h.2⟩
def mrg:List (Nat × Nat)→List Nat→List Nat
 | [],l=>l
 | z :: T,l=>mrg T (l.map fun x=>if x=l.getD z.1 0 then l.getD z.2 0 else x)
theorem mrg_ok {P:Nat→Nat→Prop}:∀ (T:List (Nat × Nat)) (l:List Nat),l.length=n→(∀ z∈T,BR m f P z.1 z.2∧z.1<n∧z.2<n)→(∀ i j,i<n→j<n→l.getD i 0=l.getD j 0→BR m f P i j) →
  (mrg T l).length=n∧∀ i j,i<n→j<n→(mrg T l).getD i 0=(mrg T l).getD j 0→BR m f P i j
 | [],l,hl,_,h=>⟨hl,h⟩
 | z :: T,l,hl,hT,h=>by
  unfold mrg;obtain ⟨h1,h2,h3⟩:=hT z (List.mem_cons_self ..);refine mrg_ok T _ (by rw [List.length_map]; exact hl) (fun z' hz'=>hT z' (List.mem_cons_of_mem _ hz')) fun i j hi hj e=>?_
  have key:∀ i,i<n→(l.map fun x=>if x=l.getD z.1 0 then l.getD z.2 0 else x).getD i 0=if l.getD i 0=l.getD z.1 0 then l.getD z.2 0 else l.getD i 0:=fun i hi=>by
   rw [getD_lt (by rw [List.length_map]; omega),List.getElem_map,getD_lt (show i<l.length by omega)]
  rw [key i hi,key j hj] at e
  by_cases e1:l.getD i 0=l.getD z.1 0
  ·rw [if_pos e1] at e
   by_cases e2:l.getD j 0=l.getD z.1 0
   ·exact h i j hi hj (e1.trans e2.symm)
   ·rw [if_neg e2] at e
    exact .trans (h i z.1 hi h2 e1) (.trans h1 (h z.2 j h3 hj e))
  ·rw [if_neg e1] at e
   by_cases e2:l.getD j 0=l.getD z.1 0
   ·rw [if_pos e2] at e
    exact .trans (h i z.2 hi h3 e) (.trans (.symm h1) (h z.1 j h2 hj e2.symm))
   ·rw [if_neg e2] at e
    exact h i j hi hj e
def frn (gs:List (List Nat)):Nat→List (Nat × Nat)→List (Nat × Nat)
 | 0,F=>F
 | k+1,F=>F++frn gs k (gs.flatMap fun g=>F.map fun z=>(g.getD z.1 0,g.getD z.2 0))
end Go.Proofs.Bk
namespace Go.Proofs.YthehbckogieimaaGreat
open Go.RowKit
open Go.Proofs
open Go.Proofs.Ob
open Go.Proofs.Cm (Gd)
attribute [local irreducible] Go.Calls Go.wpList
theorem frn_ok {n:Nat} {gs:List (List Nat)} (hg:GG n gs) {P:Nat→Nat→Prop}:∀ (k:Nat) (F:List (Nat × Nat)),(∀ z∈F,Bk.BR gs.length (img gs) P z.1 z.2∧z.1<n∧z.2<n)→∀ z∈Bk.frn gs k F,Bk.BR gs.length (img gs) P z.1 z.2∧z.1<n∧z.2<n
 | 0,F,h=>h
 | k+1,F,h=>fun z hz=>by
  unfold Bk.frn at hz
  rcases List.mem_append.1 hz with hz | hz
  ·exact h z hz
  ·refine frn_ok hg k _ (fun z hz=>?_) z hz
   obtain ⟨g,hgm,hz⟩:=List.mem_flatMap.1 hz;obtain ⟨y,hy,rfl⟩:=List.mem_map.1 hz;obtain ⟨s,hs,rfl⟩:=List.getElem_of_mem hgm;obtain ⟨h1,h2,h3⟩:=h y hy
   have e:∀ a,(gs[s]).getD a 0=img gs s a:=fun a=>by
    unfold img;rw [List.getD_eq_getElem?_getD (l:=gs),List.getElem?_eq_getElem hs,Option.getD_some]
   simp only [e];exact ⟨.act hs h1,img_lt hg s _ hs h2,img_lt hg s _ hs h3⟩
def chkL (n k:Nat) (gs:List (List Nat)) (T:List (Nat × Nat)) (L:List Nat):Bool :=
 decide (L.length=n) && Bk.rgcB L 0 && (T.all fun z=>decide (z.1<n) && decide (z.2<n) && decide (L.getD z.1 0=L.getD z.2 0)) &&
  ((List.range gs.length).all fun s=>(List.range n).all fun a=>(List.range a).all fun b=>decide (L.getD a 0≠L.getD b 0) || decide (L.getD (img gs s a) 0=L.getD (img gs s b) 0)) &&
  (let l:=Bk.mrg (Bk.frn gs k T) (List.range n); (List.range n).all fun a=>(List.range a).all fun b=>decide (L.getD a 0≠L.getD b 0) || decide (l.getD a 0=l.getD b 0))
theorem chkL_ok {n k:Nat} {gs:List (List Nat)} {T:List (Nat × Nat)} {L:List Nat} (hg:GG n gs) (h:chkL n k gs T L=true):Bk.IsLab n (Bk.BR gs.length (img gs) (inT T)) L:=by
 unfold chkL at h;simp only [Bool.and_eq_true,List.all_eq_true,List.mem_range,decide_eq_true_eq,Bool.or_eq_true] at h;obtain ⟨⟨⟨⟨h1,h2⟩,h3⟩,h4⟩,h5⟩:=h;have hT:∀ a b,inT T a b→a<n∧b<n:=fun a b hab=>(h3 (a,b) hab).1
 have low:∀ {R:Nat→Nat→Prop},(∀ a,R a a)→(∀ a b,R a b→R b a)→(∀ a,a<n→∀ b,b<a→L.getD a 0≠L.getD b 0∨R a b)→∀ a b,a<n→b<n→L.getD a 0=L.getD b 0→R a b:=by
  intro R r1 r2 r3 a b ha hb e
  rcases Nat.lt_trichotomy a b with hlt | hlt | hlt
  ·rcases r3 b hb a hlt with r | r
   ·exact absurd e.symm r
   ·exact r2 _ _ r
  ·rw [hlt]; exact r1 b
  ·rcases r3 a ha b hlt with r | r
   ·exact absurd e r
   ·exact r
 refine ⟨h1,Bk.rgcB_ok h2,fun i j hi hj=>⟨fun e=>?_,fun hr=>?_⟩⟩
 ·have hm:=Bk.mrg_ok (n:=n) (m:=gs.length) (f:=img gs) (P:=inT T) (Bk.frn gs k T) (List.range n) List.length_range (frn_ok hg k T fun z hz=>⟨.base hz,hT z.1 z.2 hz⟩) (fun i j hi hj e=>by
   rw [Bk.getD_lt (by rw [List.length_range]; exact hi),Bk.getD_lt (by rw [List.length_range]; exact hj),List.getElem_range,List.getElem_range] at e
   rw [e]; exact .refl j)
  refine hm.2 i j hi hj ?_;exact low (R:=fun a b=>(Bk.mrg (Bk.frn gs k T) (List.range n)).getD a 0=(Bk.mrg (Bk.frn gs k T) (List.range n)).getD b 0) (fun _=>rfl) (fun _ _ h=>h.symm) h5 i j hi hj e
 ·refine Bk.BR.least (n:=n) (E:=fun a b=>L.getD a 0=L.getD b 0) hT (img_lt hg) (fun _ _=>rfl) (fun _ _ _ _ h=>Eq.symm h) (fun _ _ _ _ _ _ h1 h2=>Eq.trans h1 h2) (fun s a b hs ha hb e=>?_) (fun a b hab=>(h3 (a,b) hab).2) hr hi hj
  exact low (R:=fun a b=>L.getD (img gs s a) 0=L.getD (img gs s b) 0) (fun _=>rfl) (fun _ _ h=>h.symm) (h4 s hs) a b ha hb e
def chkA (n k:Nat) (gs:List (List Nat)) (f0:List Nat) (Bs T0:List (List Nat)):Bool :=
 chkL n k gs [] f0 && decide (f0∈T0) && decide (Bs.length+1=n) && ((List.range Bs.length).all fun p=>chkL n k gs [(0,p+1)] (Bs.getD p [])) &&
  (T0.all fun x=>decide (x=f0) || decide (x∈Bs)) && (T0.all fun x=>Bs.all fun b=>T0.any fun y=>chkL n 0 gs (prL x n++prL b n) y)
theorem chkA_ok {n k:Nat} {gs:List (List Nat)} {f0:List Nat} {Bs T0:List (List Nat)} (hn:1≤n) (hg:GG n gs) (h:chkA n k gs f0 Bs T0=true) (y:List Nat):y∈T0↔Bk.RcB n gs.length (img gs) y:=by
 unfold chkA at h;simp only [Bool.and_eq_true,List.all_eq_true,List.any_eq_true,List.mem_range,decide_eq_true_eq,Bool.or_eq_true] at h;obtain ⟨⟨⟨⟨⟨h1,h2⟩,h3⟩,h4⟩,h5⟩,h6⟩:=h;have hf:=img_lt hg
 have H1:Bk.Fst0 n gs.length (img gs) f0:=by
  have:=chkL_ok hg h1;rw [inT_nil] at this;exact this
 have H4:∀ p,p+1<n→Bk.IsLab n (Bk.BR gs.length (img gs) (Bk.onep 0 (p+1))) (Bs.getD p []):=fun p hp=>by
  have:=chkL_ok hg (h4 p (by omega))
  rwa [inT_one] at this
 have nb:∀ p,p<Bs.length→Bs.getD p []∈Bs:=fun p hp=>by rw [List.getD_eq_getElem?_getD,List.getElem?_eq_getElem hp]; exact List.getElem_mem hp
 constructor
 ·intro hy
  rcases h5 y hy with e | e
  ·rw [e]; exact .first H1
  ·obtain ⟨p,hp,e⟩:=List.getElem_of_mem e
   have:=H4 p (by omega);rw [List.getD_eq_getElem?_getD,List.getElem?_eq_getElem hp,Option.getD_some,e] at this;exact Bk.RcB.base hf H1 (by omega) this
 ·intro hr
  induction hr with
  | first h=>rw [h.uniq H1]; exact h2
  | @join x b y p hx hp hb hy ih =>
   match p,hp,hb with
   | 0,_,hb =>
    have h7:Bk.Fst0 n gs.length (img gs) b:=hb.congr fun a c _ _=>by
     refine ⟨fun h=>Bk.BR.sub (fun u v huv=>?_) h,fun h=>Bk.BR.sub (fun _ _ h=>h.elim) h⟩;rw [huv.1,huv.2]; exact .refl _
    obtain ⟨q2,q3,q4⟩:=hx.inv hf;have q5:Bk.IsLab n (Bk.ker x) x:=⟨q3,q4,fun _ _ _ _=>Iff.rfl⟩
    have q6:Bk.IsLab n (Bk.ker x) y:=hy.congr fun a c ha hc=>by rw [Bk.both_comm]; exact Bk.both_first h7 q2 hf ha hc
    rw [q6.uniq q5]; exact ih
   | p+1,hp,hb =>
    have e:=hb.uniq (H4 p hp);obtain ⟨z,hz,hc⟩:=h6 x ih (Bs.getD p []) (nb p (by omega));have q:=chkL_ok hg hc;rw [prL_br (hx.inv hf).2.1 (by rw [← e]; exact hb.len),← e] at q;rw [hy.uniq q]; exact hz
theorem allB_eq {n m:Nat} {f:Nat→Nat→Nat} {T T0:List (List Nat)} (h:Bk.AllB n m f T) (ha:AscL T) (h0:Bk.AllB n m f T0) (ha0:AscL T0):T.map Ma.ofN=T0.map Ma.ofN:=by
 have hp:T.Perm T0:=by
  rw [List.perm_ext_iff_of_nodup h.1 h0.1];exact fun x=>(h.2 x).trans (h0.2 x).symm
 refine List.Perm.eq_of_pairwise (le:=fun a b=>lessL b a=false) ?_ ha ha0 (hp.map _);intro a b _ _ h1 h2
 by_cases e:a=b
 ·exact e
 ·have:=lessL_total h2 e
  rw [h1] at this; cases this
def PrB (D:Nat) (gs:List (List Nat)):Prop:=2≤D∧trn gs D=true∧∀ p,0<p→p<D→∀ M,Bk.IsLab D (Bk.BR gs.length (img gs) (Bk.onep 0 p)) M→∀ x∈M,x=0
def chkP (n k:Nat) (gs:List (List Nat)):Bool:=(List.range (n - 1)).all fun p=>chkL n k gs [(0,p+1)] (List.replicate n 0)
theorem chkP_ok {n k:Nat} {gs:List (List Nat)} (hn:2≤n) (hg:GG n gs) (ht:trn gs n=true) (h:chkP n k gs=true):PrB n gs:=by
 refine ⟨hn,ht,fun p h0 hp M hM x hx=>?_⟩;unfold chkP at h;simp only [List.all_eq_true,List.mem_range] at h;have q:=chkL_ok hg (h (p - 1) (by omega));rw [inT_one,show p - 1+1=p by omega] at q;rw [hM.uniq q] at hx;exact List.eq_of_mem_replicate hx
theorem gg_chk {n:Nat} {gs:List (List Nat)} (h:Ma.gchk ((n:Nat):Int) (gs.map Ma.ofN)=0):GG n gs:=by
 obtain ⟨D,gs',h1,h2,h3,_⟩:=gchk_ok h
 obtain rfl:n=D:=by omega
 rw [map_ofN_inj h2]; exact h3
theorem cy4_g:Ma.gchk ((4:Nat):Int) ([cyl 4].map Ma.ofN)=0:=by decide +kernel
theorem cy4_t:trn [cyl 4] 4=true:=by decide +kernel
theorem cy4_02:Bk.IsLab 4 (Bk.BR 1 (img [cyl 4]) (Bk.onep 0 2)) [0,1,0,1]:=by
 have:=chkL_ok (k:=4) (T:=[(0,2)]) (L:=[0,1,0,1]) (gg_chk cy4_g) (by decide +kernel)
 rwa [inT_one] at this
theorem cy4_all:Bk.AllB 4 1 (img [cyl 4]) [[0,0,0,0],[0,1,0,1],[0,1,2,3]] :=
 ⟨by decide +kernel,fun y=>chkA_ok (k:=4) (f0:=[0,1,2,3]) (Bs:=[[0,0,0,0],[0,1,0,1],[0,0,0,0]]) (by decide) (gg_chk cy4_g) (by decide +kernel) y⟩
theorem cy4_asc:AscL [[0,0,0,0],[0,1,0,1],[0,1,2,3]]:=by unfold AscL; decide +kernel
def gs2:List (List Nat):=[[1,0,2,3],[0,1,3,2]]
def gs4:List (List Nat):=[[1,2,3,0],[1,0,2,3]]
theorem gs2_g:Ma.gchk ((4:Nat):Int) (gs2.map Ma.ofN)=0:=by decide +kernel
theorem gs4_g:Ma.gchk ((4:Nat):Int) (gs4.map Ma.ofN)=0:=by decide +kernel
theorem gs2_02:Bk.IsLab 4 (Bk.BR gs2.length (img gs2) (Bk.onep 0 2)) [0,0,0,0]:=by
 have:=chkL_ok (k:=4) (T:=[(0,2)]) (L:=[0,0,0,0]) (gg_chk gs2_g) (by decide +kernel)
 rwa [inT_one] at this
theorem gs4_t:trn gs4 4=true:=by decide +kernel
theorem gs4_p:PrB 4 gs4:=chkP_ok (k:=4) (by decide) (gg_chk gs4_g) gs4_t (by decide +kernel)

theorem Hocl3 (args:Array Value) (w:World):(callFunc 95 args).run Tryz.prog w=.ok (.enter 95 args) w:=by kernel_rfl
theorem Hocl4 (args:Array Value) (w:World):(callFunc 26 args).run Tryz.prog w=.ok (.enter 26 args) w:=by kernel_rfl
theorem Hocl5 (args:Array Value) (w:World):(callFunc 33 args).run Tryz.prog w=.ok (.enter 33 args) w:=by kernel_rfl
def PrPost (d:Int) (ll:List (List Int)) (w:World) (e:Ending) (w':World):Prop :=
 Below w.heap.size w w'∧((Ma.gchk d ll≠0∧e=.returned (.tuple #[.bool false,.int .i64 (Ma.gchk d ll)])) ∨
  (Ma.gchk d ll=0∧∃ (D:Nat) (gs:List (List Nat)) (b:Bool),d=D∧ll=gs.map Ma.ofN∧e=.returned (.tuple #[.bool b,.int .i64 0])∧(b=true↔PrB D gs)))
theorem Primitive_any (gv:Value) (d:Int) (ll:List (List Int)) (w:World) (h:Rg.Rows w gv ll) :
  Calls Tryz.prog 18 #[.agg #[.int .i64 d,gv]] w (PrPost d ll w):=by
 obtain ⟨ga,gc,rfl,hga,hba⟩:=GI.enter (d) h;have K:=ι hba;have G0:=ι hga;clear h hga hba;obtain ⟨ck,hck⟩:∃ c,Hid (Ma.gchk d ll=c):=⟨_,ι rfl⟩
 go_enter Tryz.func18,Tryz.ntmps18
 go_upto_region 0 with (fail);refine wp_region_list ?_;refine Rg.lr 1 (Rg.exec_box _ _ rfl rfl) ?_;go_frame;refine Rg.la 2 (.bool false) ?_;go_frame;refine Rg.la 3 (.int .i64 0) ?_;go_frame;obtain ⟨gb,hgb⟩:∃ gb,w.heap.size=gb:=⟨_,rfl⟩;rw [hgb] at G0 ⊢;clear hgb;generalize w.alloc (.cells #[.int .i64 d,.slice ga ll.length gc] 24)=w0 at *;go_upto_region 1 with (fail);refine wp_region_list ?_;refine Rg.lr 6 (Rg.exec_load (v:=.agg #[.int .i64 d,.slice ga ll.length gc]) _ _ rfl ⟨gb,0,none⟩ rfl (run_loadG G0.out.c0 G0.out.c1)) ?_;go_frame;refine list_ask (some 7) rfl rfl _ _ (exec_fn1 85 _ _ rfl rfl (vacl0 _ _)) ?_;refine (orbitCheck_any _ d ll w0 G0.out.rows).mono ?_;rintro e1 w1 ⟨rfl,hb⟩;rw [hck.out];refine ⟨_,rfl,?_⟩;go_frame;replace G0:=ι (G0.out.below hb);replace K:=ι (Rg.acc K.out hb);clear hb;refine Rg.la 4 (.int .i64 ck) ?_;go_frame
 by_cases h0:ck=0
 case neg =>
  skip
  go_upto_region 2 with (fail);refine wp_region_list ?_;refine Rg.lm 8 (.int .i64 ck) ?_;go_frame;refine Rg.lr 9 (exec_bin (R:=.bool true) .neq _ _ _ rfl rfl rfl (b_neqB _ (decide_eq_true h0))) ?_;go_frame;go_upto_region 3 with (fail);refine wp_region_list ?_;refine Rg.lm 10 (.int .i64 ck) ?_;go_frame;refine Rg.la 2 (.bool false) ?_;go_frame;refine Rg.la 3 (.int .i64 ck) ?_;go_frame;go_wp2
  go_ret2
  exact ⟨K.out,.inl ⟨by rw [hck.out]; exact h0,by rw [hck.out]; rfl⟩⟩
 case pos =>
  have HZ:=ι (hck.out.trans h0);go_upto_region 2 with (fail);refine wp_region_list ?_;refine Rg.lm 8 (.int .i64 ck) ?_;go_frame;refine Rg.lr 9 (exec_bin (R:=.bool false) .neq _ _ _ rfl rfl rfl (b_neqB _ (decide_eq_false (fun e=>e h0)))) ?_;go_frame;clear h0;obtain ⟨D,gs,hD,hgs,hgg,hD1,hD2,hgl⟩:=gchk_ok HZ.out;subst hD hgs;have HGG:=ι hgg;clear hgg;obtain ⟨tb,htb⟩:∃ b,Hid (trn gs D=b):=⟨_,ι rfl⟩
  by_cases hD2':D<2
  case pos =>
   skip
   go_upto_region 4 with (fail);refine wp_region_list ?_;refine Rg.lr 11 (exec_fieldG0 _ rfl rfl) ?_;go_frame;refine Rg.lr 12 (Rg.exec_load (v:=.int .i64 ((D:Nat):Int)) _ _ rfl ⟨gb,0,none⟩ rfl (run_loadInt G0.out.c0)) ?_;go_frame;refine Rg.lr 13 (exec_bin (R:=.bool true) .lss _ _ _ rfl rfl rfl (b_lss _ (decide_eq_true (by omega)))) ?_;go_frame;refine Rg.lm 14 (.bool true) ?_;go_frame;refine listW_pass (some 15) (by kernel_rfl) rfl ?_;go_frame;refine listW_pass (some 16) (by kernel_rfl) rfl ?_;go_frame;refine listW_pass (some 17) (by kernel_rfl) rfl ?_;go_frame;refine Rg.lr 18 (exec_pickT (v:=.bool true) _ _ _ rfl rfl rfl) ?_;go_frame;go_upto_region 5 with (fail);refine wp_region_list ?_;refine Rg.la 2 (.bool false) ?_;go_frame;refine Rg.la 3 (.int .i64 ((0:Nat):Int)) ?_;go_frame;go_wp2
   go_ret2
   exact ⟨K.out,.inr ⟨HZ.out,D,gs,false,rfl,rfl,rfl,⟨fun h=>(Bool.false_ne_true h).elim,fun h=>by have:=h.1; omega⟩⟩⟩
  case neg =>
   skip
   cases tb
   case false =>
    skip
    go_upto_region 4 with (fail);refine wp_region_list ?_;refine Rg.lr 11 (exec_fieldG0 _ rfl rfl) ?_;go_frame;refine Rg.lr 12 (Rg.exec_load (v:=.int .i64 ((D:Nat):Int)) _ _ rfl ⟨gb,0,none⟩ rfl (run_loadInt G0.out.c0)) ?_;go_frame;refine Rg.lr 13 (exec_bin (R:=.bool false) .lss _ _ _ rfl rfl rfl (b_lss _ (decide_eq_false (by omega)))) ?_;go_frame;refine Rg.lm 14 (.bool false) ?_;go_frame;refine listW_run (some 15) rfl rfl (Rg.exec_load (v:=.agg #[.int .i64 ((D:Nat):Int),.slice ga (gs.map Ma.ofN).length gc]) _ _ rfl ⟨gb,0,none⟩ rfl (run_loadG G0.out.c0 G0.out.c1)) ?_;go_frame;refine listW_ask (some 16) rfl rfl _ _ (exec_fn1 86 _ _ rfl rfl (Hlcl1 _ _)) ?_;refine (btrans_any _ D gs w1 HZ.out G0.out.rows).mono ?_;rintro e1 w2 ⟨rfl,hb⟩;rw [htb.out];refine ⟨_,rfl,?_⟩;go_frame;replace G0:=ι (G0.out.below hb);replace K:=ι (Rg.acc K.out hb);clear hb;refine listW_run (some 17) rfl rfl (exec_not _ _ false rfl rfl) ?_;go_frame
    refine Rg.lr 18 (exec_pickF (v:=.bool true) _ _ _ rfl rfl rfl) ?_;go_frame;go_upto_region 5 with (fail);refine wp_region_list ?_;refine Rg.la 2 (.bool false) ?_;go_frame;refine Rg.la 3 (.int .i64 ((0:Nat):Int)) ?_;go_frame;go_wp2
    go_ret2
    exact ⟨K.out,.inr ⟨HZ.out,D,gs,false,rfl,rfl,rfl,⟨fun h=>(Bool.false_ne_true h).elim,fun h=>by have:=h.2.1; rw [htb.out] at this; exact this⟩⟩⟩
   case true =>
    skip
    go_upto_region 4 with (fail);refine wp_region_list ?_;refine Rg.lr 11 (exec_fieldG0 _ rfl rfl) ?_;go_frame;refine Rg.lr 12 (Rg.exec_load (v:=.int .i64 ((D:Nat):Int)) _ _ rfl ⟨gb,0,none⟩ rfl (run_loadInt G0.out.c0)) ?_;go_frame;refine Rg.lr 13 (exec_bin (R:=.bool false) .lss _ _ _ rfl rfl rfl (b_lss _ (decide_eq_false (by omega)))) ?_;go_frame;refine Rg.lm 14 (.bool false) ?_;go_frame;refine listW_run (some 15) rfl rfl (Rg.exec_load (v:=.agg #[.int .i64 ((D:Nat):Int),.slice ga (gs.map Ma.ofN).length gc]) _ _ rfl ⟨gb,0,none⟩ rfl (run_loadG G0.out.c0 G0.out.c1)) ?_;go_frame;refine listW_ask (some 16) rfl rfl _ _ (exec_fn1 86 _ _ rfl rfl (Hlcl1 _ _)) ?_;refine (btrans_any _ D gs w1 HZ.out G0.out.rows).mono ?_;rintro e1 w2 ⟨rfl,hb⟩;rw [htb.out];refine ⟨_,rfl,?_⟩;go_frame;replace G0:=ι (G0.out.below hb);replace K:=ι (Rg.acc K.out hb);clear hb;refine listW_run (some 17) rfl rfl (exec_not _ _ true rfl rfl) ?_;go_frame
    refine Rg.lr 18 (exec_pickF (v:=.bool false) _ _ _ rfl rfl rfl) ?_;go_frame;go_upto_region 6 with (fail);refine wp_region_list ?_;refine Rg.la 5 (.int .i64 ((1:Nat):Int)) ?_;go_frame;have HWB:=ι K.out;have GB:=ι G0.out;have KK:=ι (Below.refl w2.heap.size w2);have AL:=ι (show ∀ p,0<p→p≤0→∀ M,Bk.IsLab D (Bk.BR gs.length (img gs) (Bk.onep 0 p)) M→∀ x∈M,x=0 from fun p h1 h2=>by omega);clear G0 K;go_wp2
    go_loopw [5] (fun pv wr=>∃ k:Nat,pv=.int .i64 ((k+1:Nat):Int)∧k+1≤D∧Hid (∀ p,0<p→p≤k→∀ M,Bk.IsLab D (Bk.BR gs.length (img gs) (Bk.onep 0 p)) M→∀ x∈M,x=0)∧Hid (Below w2.heap.size w2 wr)) (fun pv _=>D - (intOf pv).toNat)
    case atStart=>exact ⟨0,rfl,by omega,AL,KK⟩
    case round =>
     clear AL KK;obtain ⟨k,rfl,hk,AL,KK⟩:=hrel;generalize wr=wd at *;have G0:=ι (GB.out.below KK.out)
     by_cases hkD:k+1<D
     case neg =>
      have hkD2:k+1=D:=by omega
      go_upto_region 7 with (fail);refine wp_region_list ?_;refine Rg.lm 19 (.int .i64 (((k+1):Nat):Int)) ?_;go_frame;refine Rg.lr 20 (exec_fieldG0 _ rfl rfl) ?_;go_frame;refine Rg.lr 21 (Rg.exec_load (v:=.int .i64 ((D:Nat):Int)) _ _ rfl ⟨gb,0,none⟩ rfl (run_loadInt G0.out.c0)) ?_;go_frame;refine Rg.lr 22 (exec_bin (R:=.bool false) .lss _ _ _ rfl rfl rfl (b_lss _ (decide_eq_false (by omega)))) ?_;go_frame;go_upto_region 11 with (fail);refine wp_region_list ?_;refine Rg.la 2 (.bool true) ?_;go_frame;refine Rg.la 3 (.int .i64 ((0:Nat):Int)) ?_;go_frame;go_wp2
      go_ret2
      exact ⟨Rg.acc HWB.out KK.out,.inr ⟨HZ.out,D,gs,true,rfl,rfl,rfl,⟨fun _=>⟨by omega,htb.out,fun p h1 h2=>AL.out p h1 (by omega)⟩,fun _=>rfl⟩⟩⟩
     case pos =>
      have HKD:=ι hkD;go_upto_region 7 with (fail);refine wp_region_list ?_;refine Rg.lm 19 (.int .i64 (((k+1):Nat):Int)) ?_;go_frame;refine Rg.lr 20 (exec_fieldG0 _ rfl rfl) ?_;go_frame;refine Rg.lr 21 (Rg.exec_load (v:=.int .i64 ((D:Nat):Int)) _ _ rfl ⟨gb,0,none⟩ rfl (run_loadInt G0.out.c0)) ?_;go_frame;refine Rg.lr 22 (exec_bin (R:=.bool true) .lss _ _ _ rfl rfl rfl (b_lss _ (decide_eq_true (by omega)))) ?_;go_frame;obtain ⟨bz,hbz⟩:∃ b:Bool,Hid (b=b):=⟨true,ι rfl⟩;clear bz hbz;go_upto_region 9 with (fail);refine wp_region_list ?_;refine Rg.lr 25 (Rg.exec_load (v:=.agg #[.int .i64 ((D:Nat):Int),.slice ga (gs.map Ma.ofN).length gc]) _ _ rfl ⟨gb,0,none⟩ rfl (run_loadG G0.out.c0 G0.out.c1)) ?_;go_frame;refine Rg.lm 26 (.int .i64 (((k+1):Nat):Int)) ?_;go_frame;refine Rg.lr 27 (exec_build2 _ _ rfl rfl rfl) ?_;go_frame;have hpr:=prs_one (W:=wd) (A:=0) (B:=k+1) ((Below.refl _ _).alloc (Nat.le_refl _) _) rfl
      refine Rg.lr 28 (Rg.exec_buildSlice _ _ _ rfl (.agg #[.int .i64 ((0:Nat):Int),.int .i64 (((k+1):Nat):Int)]) rfl (run_build2p wd _ _)) ?_;go_frame;have hb:=(Below.refl wd.heap.size wd).alloc (Nat.le_refl _) (.cells #[.int .i64 ((0:Nat):Int),.int .i64 (((k+1):Nat):Int)] 108);generalize wd.alloc (.cells #[.int .i64 ((0:Nat):Int),.int .i64 (((k+1):Nat):Int)] 108)=w61 at *;replace G0:=ι (G0.out.below hb);replace KK:=ι (Rg.acc KK.out hb);clear hb;have PR:=ι hpr;clear hpr;refine list_ask (some 29) rfl rfl _ _ (exec_fn 87 _ _ _ rfl rfl rfl (Hicl1 _ _)) ?_;refine (bleastV D _ _ gs [(0,k+1)] w61 hD2 G0.out.rows HGG.out (by omega) PR.out (fun z hz=>by rw [List.mem_singleton] at hz; subst hz; exact ⟨by show 0<D; omega,HKD.out⟩) (by show 1≤1000; omega)).mono ?_;rintro e1 w62 ⟨yv,y,rfl,hin,hlab,hb⟩;have HLB:=ι (show Bk.IsLab D (Bk.BR gs.length (img gs) (Bk.onep 0 (k+1))) y by rw [inT_one] at hlab; exact hlab)
      clear hlab;refine ⟨_,rfl,?_⟩;go_frame;replace G0:=ι (G0.out.below hb);replace KK:=ι (Rg.acc KK.out hb);clear hb;have YV:=ι (NpW.mk hin);refine list_ask (some 30) rfl rfl _ _ (exec_fn1 95 _ _ rfl rfl (Hocl3 _ _)) ?_;refine (Max_any _ y w62 YV.out.np (by rw [HLB.out.len]; omega) (by rw [HLB.out.len]; omega) (fun x hx=>by have:=Bk.rgc_lt HLB.out.rg x hx; rw [HLB.out.len] at this; omega)).mono ?_;rintro e1 w63 ⟨mx,rfl,hm1,hm2,hb⟩;have HM:=ι (And.intro hm1 hm2);clear hm1 hm2;obtain ⟨qb,hqb⟩:∃ b,Hid (decide (0<mx)=b):=⟨_,ι rfl⟩;have HQB:=ι (show decide (((mx:Nat):Int) > ((0:Nat):Int))=qb by rw [← hqb.out]; exact decide_eq_decide.2 (by omega));refine ⟨_,rfl,?_⟩;go_frame;replace G0:=ι (G0.out.below hb);replace YV:=ι (YV.out.below hb);replace KK:=ι (Rg.acc KK.out hb);clear hb;refine Rg.lr 31 (exec_bin (R:=.bool qb) .gtr _ _ _ rfl rfl rfl (b_gtr _ HQB.out)) ?_;go_frame
      cases qb with
      | true =>
       skip
       go_upto_region 10 with (fail);refine wp_region_list ?_;refine Rg.la 2 (.bool false) ?_;go_frame;refine Rg.la 3 (.int .i64 ((0:Nat):Int)) ?_;go_frame;go_wp2
       go_ret2
       exact ⟨Rg.acc HWB.out KK.out,.inr ⟨HZ.out,D,gs,false,rfl,rfl,rfl,⟨fun h=>(Bool.false_ne_true h).elim,fun h=>by
        have h1:=h.2.2 (k+1) (by omega) HKD.out y HLB.out mx HM.out.1;have h2:=of_decide_eq_true hqb.out
        omega⟩⟩⟩
      | false =>
       have AL2:=ι (show ∀ p,0<p→p≤k+1→∀ M,Bk.IsLab D (Bk.BR gs.length (img gs) (Bk.onep 0 p)) M→∀ x∈M,x=0 from fun p h1 h2 M hM x hx=>by
        by_cases e:p=k+1
        ·subst e
         rw [hM.uniq HLB.out] at hx;have h3:=HM.out.2 x hx;have h4:=of_decide_eq_false hqb.out;omega
        ·exact AL.out p h1 (by omega) M hM x hx)
       go_upto_region 8 with (fail);refine wp_region_list ?_;refine Rg.lm 23 (.int .i64 (((k+1):Nat):Int)) ?_;go_frame;refine Rg.lr 24 (exec_bin (R:=.int .i64 (((k+1+1):Nat):Int)) .add _ _ _ rfl rfl rfl (b_add _ (by omega) (by omega))) ?_;go_frame;refine Rg.la 5 (.int .i64 (((k+1+1):Nat):Int)) ?_;go_frame;go_wp2
       go_roundw
       case rel=>exact ⟨k+1,by go_num,HKD.out,AL2,KK⟩
       case measure=>simp [intOf]; have:=HKD.out; omega
theorem LsAns.one {w:World} {gs:List (List Nat)} {D A B:Nat} {M:List Nat} {v:Value} (h:LsAns w ((D:Nat):Int) (gs.map Ma.ofN) ((A:Nat):Int) ((B:Nat):Int) v) (hc:lsC ((D:Nat):Int) (gs.map Ma.ofN) ((A:Nat):Int) ((B:Nat):Int)=0) (hM:Bk.IsLab D (Bk.BR gs.length (img gs) (Bk.onep A B)) M):Rg.NP w v M:=by
 rcases h with ⟨h0,_⟩ | ⟨_,D',gs',A',B',M',e1,e2,e3,e4,_,_,_,_,_,k9,k10⟩
 ·exact absurd hc h0
 ·obtain rfl:D=D':=by omega
  obtain rfl:=map_ofN_inj e2
  obtain rfl:A=A':=by omega
  obtain rfl:B=B':=by omega
  rw [hM.uniq k9];exact k10
theorem least12_any (gv:Value) (D:Nat) (gs:List (List Nat)) (A B:Nat) (M:List Nat) (wv:Value) (w:World) (h:Rg.Rows w gv (gs.map Ma.ofN)) (hz:Ma.gchk ((D:Nat):Int) (gs.map Ma.ofN)=0) (hA:A<D) (hB:B<D) (hM:Bk.IsLab D (Bk.BR gs.length (img gs) (Bk.onep A B)) M) (hw:Rg.Ints w wv (Ma.ofN M)) :
  Calls Tryz.prog 83 #[.agg #[.int .i64 ((D:Nat):Int),gv],.int .i64 ((A:Nat):Int),.int .i64 ((B:Nat):Int),wv] w fun e w'=>e=.returned (.bool true)∧Below w.heap.size w w':=by
 obtain ⟨wa,wc,rfl,-⟩:=hw.shape;have HW:=ι (NpW.mk (show Rg.NP w _ M from hw));have HZ:=ι hz;have HM:=ι hM;have HC:=ι (lsC_z (a:=((A:Nat):Int)) (b:=((B:Nat):Int)) hz ⟨⟨by omega,by omega⟩,⟨by omega,by omega⟩⟩);obtain ⟨ml,hml⟩:∃ n,(Ma.ofN M).length=n:=⟨_,rfl⟩;rw [hml] at HW ⊢;clear hw hz hM hml;obtain ⟨ga,gc,rfl,hga,hba⟩:=GI.enter (((D:Nat):Int)) h;have K:=ι hba;have G0:=ι hga;clear h hga hba;replace HW:=ι (HW.out.below K.out)
 go_enter Tryz.func83,Tryz.ntmps83
 go_upto_region 0 with (fail);refine wp_region_list ?_;refine Rg.lr 4 (Rg.exec_box _ _ rfl rfl) ?_;go_frame;refine Rg.la 8 (.bool false) ?_;go_frame;obtain ⟨gb,hgb⟩:∃ gb,w.heap.size=gb:=⟨_,rfl⟩;rw [hgb] at G0 ⊢;clear hgb;generalize w.alloc (.cells #[.int .i64 ((D:Nat):Int),.slice ga (gs.map Ma.ofN).length gc] 24)=w0 at *;go_upto_region 1 with (fail);refine wp_region_list ?_;refine Rg.lr 12 (Rg.exec_load (v:=.agg #[.int .i64 ((D:Nat):Int),.slice ga (gs.map Ma.ofN).length gc]) _ _ rfl ⟨gb,0,none⟩ rfl (run_loadG G0.out.c0 G0.out.c1)) ?_;go_frame;refine Rg.lm 13 (.int .i64 ((A:Nat):Int)) ?_;go_frame;refine Rg.lm 14 (.int .i64 ((B:Nat):Int)) ?_;go_frame;refine list_ask (some 15) rfl rfl _ _ (exec_fn3 26 _ _ _ _ rfl rfl rfl rfl (Hocl4 _ _)) ?_;refine (Least_any _ ((D:Nat):Int) (gs.map Ma.ofN) ((A:Nat):Int) ((B:Nat):Int) w0 G0.out.rows).mono ?_;rintro e1 w1 ⟨v,rfl,hans,hb⟩
 rw [HC.out];have hin:=hans.one HC.out HM.out;refine ⟨_,rfl,?_⟩;go_frame;replace G0:=ι (G0.out.below hb);replace HW:=ι (HW.out.below hb);replace K:=ι (Rg.acc K.out hb);clear hb;have HV:=ι (NpW.mk hin);refine Rg.lm 11 (.tuple #[v,.int .i64 0]) ?_;go_frame;refine Rg.lr 16 (exec_extract (v:=v) _ _ rfl rfl rfl) ?_;go_frame;refine Rg.lr 17 (exec_extract (v:=.int .i64 0) _ _ rfl rfl rfl) ?_;go_frame;refine Rg.la 9 (v) ?_;go_frame;refine Rg.la 10 (.int .i64 0) ?_;go_frame;clear hans hin;go_upto_region 2 with (fail);refine wp_region_list ?_;refine Rg.lm 18 (v) ?_;go_frame;refine Rg.lm 19 (.slice wa ml wc) ?_;go_frame;refine list_ask (some 20) rfl rfl _ _ (exec_fn 33 _ _ _ rfl rfl rfl (Hocl5 _ _)) ?_;refine (Same_any HV.out.np HW.out.np (ι (decide_eq_true rfl)) (Below.refl _ _)).mono ?_;rintro e1 w2 ⟨rfl,hb⟩;refine ⟨_,rfl,?_⟩;go_frame;replace G0:=ι (G0.out.below hb);replace HW:=ι (HW.out.below hb)
 replace HV:=ι (HV.out.below hb);replace K:=ι (Rg.acc K.out hb);clear hb;refine Rg.lm 21 (.bool true) ?_;go_frame;refine listW_run (some 22) rfl rfl (Rg.xm (.int .i64 0) _ rfl rfl) ?_;go_frame;refine listW_run (some 23) rfl rfl (exec_eqI _ _ rfl rfl rfl rfl) ?_;go_frame;refine Rg.lr 24 (exec_pickT (v:=.bool true) _ _ _ rfl rfl rfl) ?_;go_frame;refine Rg.la 8 (.bool true) ?_;go_frame;go_wp2;go_ret;exact ⟨rfl,K.out⟩
end Go.Proofs.YthehbckogieimaaGreat

namespace Go.Proofs.Bk
variable {n m:Nat} {f:Nat→Nat→Nat}
theorem map_ofNat_inj {L M:List Nat} (h:L.map Int.ofNat=M.map Int.ofNat):L=M:=by
 induction L generalizing M with
 | nil=>cases M with
  | nil=>rfl
  | cons _ _=>simp at h
 | cons x L ih=>cases M with
  | nil=>simp at h
  | cons y M =>
   simp only [List.map_cons,List.cons.injEq] at h;obtain ⟨h1,h2⟩:=h;rw [ih h2,Int.ofNat.inj h1]
def RtI (l:List Int) (i m:Nat):Prop:=∃ L:List Nat,l.take i=L.map Int.ofNat∧rgc L 0∧mny L 0=m
theorem RtI.start (l:List Int):RtI l 0 0:=⟨[],by simp,trivial,rfl⟩
theorem RtI.bad {l:List Int} {i m:Nat} (h:RtI l i m) (hi:i<l.length) (hx:l[i]<0∨(m:Int)<l[i]):¬ okP l:=by
 rintro ⟨M,rfl,hM⟩;obtain ⟨L,h1,_,h3⟩:=h;rw [← List.map_take] at h1;have h4:=map_ofNat_inj h1
 have hi2:i<M.length:=by simpa using hi
 have h5:=rgc_take hM (i+1);rw [List.take_succ_eq_append_getElem hi2,rgc_snoc,h4,h3] at h5;rw [List.getElem_map] at hx;have h6:=h5.2
 rcases hx with hx | hx
 ·have:(0:Int)≤Int.ofNat M[i]:=Int.natCast_nonneg _
  omega
 ·have:(Int.ofNat M[i])=((M[i]:Nat):Int):=rfl
  omega
theorem RtI.next {l:List Int} {i m x:Nat} (h:RtI l i m) (hi:i<l.length) (hx:l[i]=(x:Int)) (hm:x≤m):RtI l (i+1) (if x=m then m+1 else m):=by
 obtain ⟨L,h1,h2,h3⟩:=h;refine ⟨L++[x],?_,(rgc_snoc _ _ _).2 ⟨h2,by omega⟩,by rw [mny_snoc,h3]⟩;rw [List.take_succ_eq_append_getElem hi,h1,hx,List.map_append];rfl
theorem RtI.done {l:List Int} {i m:Nat} (h:RtI l i m) (hi:l.length≤i):okP l:=by
 obtain ⟨L,h1,h2,_⟩:=h;rw [List.take_of_length_le hi] at h1;exact ⟨L,h1,h2⟩
theorem idxOf_lt {L:List Nat} {i:Nat} (h:i<L.length):L.idxOf (L.getD i 0)<L.length:=List.idxOf_lt_length_of_mem (by rw [getD_lt h]; exact List.getElem_mem h)
theorem idxOf_get {L:List Nat} {i:Nat} (h:i<L.length):L.getD (L.idxOf (L.getD i 0)) 0=L.getD i 0:=by rw [getD_lt (idxOf_lt h)]; exact List.getElem_idxOf (idxOf_lt h)
theorem inv_iff {L:List Nat} (hl:L.length=n):Inv n m f L↔∀ s i,s<m→i<n→L.getD (f s i) 0=L.getD (f s (L.idxOf (L.getD i 0))) 0:=by
 constructor
 ·intro h s i hs hi
  exact h s i _ hs hi (by rw [← hl]; exact idxOf_lt (by omega)) (idxOf_get (by omega)).symm
 ·intro h s a b hs ha hb hk
  have h1:=h s a hs ha;have h2:=h s b hs hb;unfold ker at hk ⊢;rw [h1,h2,hk]
def acB (L g:List Nat):List Nat:=(List.range (mny L 0)).map fun c=>L.getD (g.getD (L.idxOf c) 0) 0
theorem acB_len (L g:List Nat):(acB L g).length=mny L 0:=by unfold acB; simp
theorem acB_at {L g:List Nat} {c:Nat} (h:c<mny L 0):(acB L g).getD c 0=L.getD (g.getD (L.idxOf c) 0) 0:=by
 rw [getD_lt (by rw [acB_len]; exact h)];unfold acB;rw [List.getElem_map,List.getElem_range]
theorem mem_mny {L:List Nat} (h:rgc L 0) (v:Nat):v∈L↔v<mny L 0:=by
 rw [← rgc_mem h v];exact ⟨.inr,fun h=>h.resolve_left (Nat.not_lt_zero _)⟩
def fil (L g:List Nat) (z:Nat→Int) (i c:Nat):Int:=if c∈L.take i then (((acB L g).getD c 0:Nat):Int) else z c
theorem fil_zero (L g:List Nat) (z:Nat→Int):fil L g z 0=z:=funext fun c=>by unfold fil; simp
theorem fil_step {L g:List Nat} {z:Nat→Int} {i:Nat} (hi:i<L.length) (c:Nat):fil L g z (i+1) c=if c=L[i] then (((acB L g).getD c 0:Nat):Int) else fil L g z i c:=by
 unfold fil;rw [List.take_succ_eq_append_getElem hi]
 by_cases e:c=L[i]
 ·rw [if_pos e,if_pos (List.mem_append_right _ (by rw [e]; exact List.mem_singleton.2 rfl))]
 ·rw [if_neg e]
  by_cases e2:c∈L.take i
  ·rw [if_pos e2,if_pos (List.mem_append_left _ e2)]
  ·rw [if_neg e2,if_neg (fun h=>(List.mem_append.1 h).elim e2 (fun h=>e (List.mem_singleton.1 h)))]
theorem fil_all {L g:List Nat} {z:Nat→Int} (hr:rgc L 0) {c:Nat} (h:c<mny L 0):fil L g z L.length c=(((acB L g).getD c 0:Nat):Int):=by
 unfold fil;rw [List.take_length,if_pos ((mem_mny hr c).2 h)]
theorem max_mny {L:List Nat} {x:Nat} (hr:rgc L 0) (h1:x∈L) (h2:∀ y∈L,y≤x):x+1=mny L 0:=by
 have h3:=(mem_mny hr x).1 h1;have h4:=h2 (mny L 0 - 1) ((mem_mny hr _).2 (by omega));omega
end Go.Proofs.Bk
namespace Go.Proofs.YthehbckogieimaaGreat
open Go.RowKit
open Go.Proofs
open Go.Proofs.Ob
open Go.Proofs.Cm (Gd)
attribute [local irreducible] Go.Calls Go.wpList
open Classical in
noncomputable def paC (d:Int) (ll:List (List Int)) (l:List Int):Int:=if Ma.gchk d ll=0 then (if (l.length:Int)=d∧Bk.okP l then 0 else 3) else Ma.gchk d ll
theorem paC_g {d:Int} {ll:List (List Int)} {l:List Int} {c:Int} (h:Ma.gchk d ll=c) (hc:c≠0):paC d ll l=c:=by unfold paC; rw [if_neg (by rw [h]; exact hc)]; exact h
theorem paC_f {d:Int} {ll:List (List Int)} {l:List Int} (h:Ma.gchk d ll=0) (hc:¬ ((l.length:Int)=d∧Bk.okP l)):paC d ll l=3:=by unfold paC; rw [if_pos h,if_neg hc]
theorem paC_z {d:Int} {ll:List (List Int)} {l:List Int} (h:Ma.gchk d ll=0) (hc:(l.length:Int)=d∧Bk.okP l):paC d ll l=0:=by unfold paC; rw [if_pos h,if_pos hc]
theorem paC_ok {d:Int} {ll:List (List Int)} {l:List Int} (h:paC d ll l=0):Ma.gchk d ll=0∧∃ (D:Nat) (gs:List (List Nat)) (L:List Nat),d=D∧ll=gs.map Ma.ofN∧l=Ma.ofN L∧GG D gs∧1≤D∧D≤64∧gs.length≤16∧L.length=D∧Bk.rgc L 0:=by
 unfold paC at h
 by_cases h0:Ma.gchk d ll=0
 ·rw [if_pos h0] at h
  by_cases h1:(l.length:Int)=d∧Bk.okP l
  ·obtain ⟨h1,L,rfl,h2⟩:=h1
   obtain ⟨D,gs,h3,h4,h5,h6,h7,h8⟩:=gchk_ok h0;exact ⟨h0,D,gs,L,h3,h4,rfl,h5,h6,h7,h8,by rw [List.length_map] at h1; omega,h2⟩
  ·rw [if_neg h1] at h
   exact absurd h (by decide)
 ·rw [if_neg h0] at h
  exact absurd h h0
def syB (D:Nat) (gs:List (List Nat)) (L:List Nat):Bool:=(List.range gs.length).all fun s=>(List.range D).all fun i=>decide (L.getD (img gs s i) 0=L.getD (img gs s (L.idxOf (L.getD i 0))) 0)
theorem syB_iff {D:Nat} {gs:List (List Nat)} {L:List Nat} (hl:L.length=D):syB D gs L=true↔Bk.Inv D gs.length (img gs) L:=by
 rw [Bk.inv_iff hl];unfold syB;simp only [List.all_eq_true,List.mem_range,decide_eq_true_eq];exact ⟨fun h s i hs hi=>h s hs i hi,fun h s hs i hi=>h s i hs hi⟩
def isBl (d:Int) (ll:List (List Int)) (l:List Int):Bool:=syB d.toNat (ll.map (List.map Int.toNat)) (l.map Int.toNat)
theorem isBl_eq (D:Nat) (gs:List (List Nat)) (L:List Nat):isBl ((D:Nat):Int) (gs.map Ma.ofN) (Ma.ofN L)=syB D gs L:=by
 unfold isBl;rw [toN1,Int.toNat_natCast]
 have e:(gs.map Ma.ofN).map (List.map Int.toNat)=gs:=by
  rw [List.map_map];exact (List.map_congr_left fun x _=>toN1 x).trans (List.map_id _)
 rw [e]
noncomputable def acC (d:Int) (ll:List (List Int)) (l:List Int):Int:=if paC d ll l=0 then (if isBl d ll l=true then 0 else 13) else paC d ll l
def AcAns (w:World) (d:Int) (ll:List (List Int)) (l:List Int) (v:Value):Prop :=
 (acC d ll l≠0∧v=.agg #[.int .i64 0,.slice none 0 0])∨(acC d ll l=0∧∃ (gs:List (List Nat)) (L:List Nat) (a:Option Addr) (c:Nat),ll=gs.map Ma.ofN∧l=Ma.ofN L∧v=.agg #[.int .i64 ((Bk.mny L 0:Nat):Int),.slice a gs.length c]∧Rg.Rows w (.slice a gs.length c) ((gs.map (Bk.acB L)).map Ma.ofN))
theorem AcAns.shape {w:World} {d:Int} {ll:List (List Int)} {l:List Int} {v:Value} (h:AcAns w d ll l v):∃ e a n c,v=.agg #[.int .i64 e,.slice a n c]:=by
 rcases h with ⟨_,rfl⟩ | ⟨_,_,_,_,_,_,_,rfl,_⟩
 ·exact ⟨_,_,_,_,rfl⟩
 ·exact ⟨_,_,_,_,rfl⟩
theorem AcAns.below {w w':World} {d:Int} {ll:List (List Int)} {l:List Int} {v:Value} (h:AcAns w d ll l v) (hb:Below w.heap.size w w'):AcAns w' d ll l v:=by
 rcases h with h | ⟨h0,gs,L,a,c,h1,h2,h3,h4⟩
 ·exact .inl h
 ·exact .inr ⟨h0,gs,L,a,c,h1,h2,h3,h4.below hb⟩
theorem AcAns.both {w:World} {d e1 e2:Int} {ll:List (List Int)} {l:List Int} {a1 a2:Option Addr} {n1 n2 c1 c2:Nat} (h:AcAns w d ll l (.agg #[.int .i64 e1,.slice a1 n1 c1])) (h':AcAns w d ll l (.agg #[.int .i64 e2,.slice a2 n2 c2])):e1=e2∧∃ rr,Rg.Rows w (.slice a1 n1 c1) rr∧Rg.Rows w (.slice a2 n2 c2) rr:=by
 rcases h with ⟨h0,e⟩ | ⟨h0,gs,L,a,c,h1,h2,h3,h4⟩
 ·rcases h' with ⟨_,e'⟩ | ⟨h0',_⟩
  ·simp only [Value.agg.injEq,Array.mk.injEq,List.cons.injEq,Value.int.injEq,true_and,Value.slice.injEq,and_true] at e e'
   obtain ⟨rfl,rfl,rfl,rfl⟩:=e;obtain ⟨rfl,rfl,rfl,rfl⟩:=e';exact ⟨rfl,[],Rg.Rows.nil _ none 0 (Nat.zero_le _),Rg.Rows.nil _ none 0 (Nat.zero_le _)⟩
  ·exact absurd h0' h0
 ·rcases h' with ⟨h0',_⟩ | ⟨_,gs',L',a',c',k1,k2,k3,k4⟩
  ·exact absurd h0 h0'
  ·simp only [Value.agg.injEq,Array.mk.injEq,List.cons.injEq,Value.int.injEq,true_and,Value.slice.injEq,and_true] at h3 k3
   obtain ⟨rfl,rfl,rfl,rfl⟩:=h3;obtain ⟨rfl,rfl,rfl,rfl⟩:=k3;have e1:=map_ofN_inj (h1.symm.trans k1)
   have e2:L=L':=by
    have:=congrArg (List.map Int.toNat) (h2.symm.trans k2)
    rwa [toN1,toN1] at this
   subst e1 e2;exact ⟨rfl,_,h4,k4⟩
structure AcM (w W:World) (gb d:Nat) (F:Nat→Prop) (gv:Value) (gs:List (List Nat)):Prop where
 bel:Below w.heap.size w W
 g0:CL W gb 0 (.int .i64 ((d:Nat):Int))
 g1:W.cell? ⟨gb,1,none⟩=some gv
 gf:W.frozen? ⟨gb,1,none⟩=false
 rw:RowH w.heap.size F (fun z=>z=gb) W gv gs
 nF:¬ F gb
 Flt:∀ z,F z→z<W.heap.size
 lo:w.heap.size≤gb
 Flo:∀ z,F z→w.heap.size≤z
theorem AcM.up {w W W':World} {gb d:Nat} {F:Nat→Prop} {gv:Value} {gs:List (List Nat)} (h:AcM w W gb d F gv gs) (hb:Below W.heap.size W W'):AcM w W' gb d (Fup F W W') gv gs:=by
 have hk:Rg.Kp (fun _=>False) W W':=Rg.Kp.of_below hb;have hg:=hk.block gb h.g0.lt id;refine ⟨Rg.acc h.bel hb,h.g0.up hb,(World.cell?_of_block (a:=⟨gb,1,none⟩) hg).trans h.g1,(World.frozen?_of_block (a:=⟨gb,1,none⟩) hg).trans h.gf,h.rw.upk hk (fun _ _=>id) (fun _ e=>e.elim),fun hf=>?_,fun z hf=>?_,h.lo,fun z hf=>hf.elim (h.Flo z) (fun e=>Nat.le_trans h.bel.size e.1)⟩
 ·rcases hf with hf | hf
  ·exact h.nF hf
  ·have:=h.g0.lt; omega
 ·rcases hf with hf | hf
  ·exact Nat.lt_of_lt_of_le (h.Flt z hf) hb.size
  ·exact hf.2
theorem AcM.push {w W:World} {gb d:Nat} {F:Nat→Prop} {gv:Value} {gs:List (List Nat)} (h:AcM w W gb d F gv gs) {u:Value} {y:List Nat} (hu:FP F W u y) (hs:∃ a m c,u=.slice a m c) (hn:gs.length<1000000) (ty:TypeId) :
  ∃ a c X,(Builtin.append_ #[22,22] ty #[gv,.slice (some ⟨W.heap.size,0,none⟩) 1 1]).run Tryz.prog (W.alloc (.cells #[u] 51))=.ok (.slice a (gs.length+1) c) X∧X.cell? ⟨gb,1,none⟩=some gv∧X.frozen? ⟨gb,1,none⟩=false ∧
   AcM w (X.setCell ⟨gb,1,none⟩ (.slice a (gs.length+1) c)) gb d F (.slice a (gs.length+1) c) (gs++[y]):=by
 obtain ⟨a,c,X,r1,r2,r3⟩:=h.rw.push hu hs h.Flt (fun z e=>by subst e; exact h.g0.lt) hn ty;have hO:¬ gv.ownBlock=some gb:=fun e=>(h.rw.off gb e).2 rfl;have hkg:=r3.block gb h.g0.lt hO;have hc1:=(World.cell?_of_block (a:=⟨gb,1,none⟩) hkg).trans h.g1;have hf1:=(World.frozen?_of_block (a:=⟨gb,1,none⟩) hkg).trans h.gf;have hk2:Rg.Kp (fun z=>z=gb) X (X.setCell ⟨gb,1,none⟩ (.slice a (gs.length+1) c)):=Rg.Kp.of_setCell rfl;have hbX:Below w.heap.size w X:=Rg.Kp.below h.bel r3 (fun z e=>(h.rw.lt z e).1);refine ⟨a,c,X,r1,hc1,hf1,⟨Rg.Kp.below hbX hk2 (fun z e=>e▸h.lo),?_,World.cell?_setCell_same (h:=hc1) ..,by rw [World.frozen?_setCell]; exact hf1,r2.kp hk2 (fun z hz e=>h.nF (e▸hz)) (fun k e e2=>?_),h.nF,fun z hz=>Nat.lt_of_lt_of_le (h.Flt z hz) (Nat.le_trans r3.size hk2.size),h.lo,h.Flo⟩⟩
 ·refine ⟨?_,Nat.lt_of_lt_of_le h.g0.lt (Nat.le_trans r3.size hk2.size)⟩
  rw [World.cell?_setCell_other (h:=by intro e; injection e with e1 e2; omega) ..]
  exact (World.cell?_of_block (a:=⟨gb,0,none⟩) hkg).trans h.g0.cell
 ·subst e2
  exact (r2.off k e).2 rfl
theorem AcM.start {w W:World} {gb d:Nat} (hb:Below w.heap.size w W) (h0:CL W gb 0 (.int .i64 ((d:Nat):Int))) (h1:W.cell? ⟨gb,1,none⟩=some (.slice none 0 0)) (hf:W.frozen? ⟨gb,1,none⟩=false) (hlo:w.heap.size≤gb):AcM w W gb d (fun _=>False) (.slice none 0 0) [] :=
 ⟨hb,h0,h1,hf,RowH.nil _ _ _ _ hb.size,id,fun _ h=>h.elim,hlo,fun _ h=>h.elim⟩
end Go.Proofs.YthehbckogieimaaGreat

namespace Go.Proofs.YthehbckogieimaaGreat
open Go.RowKit
open Go.Proofs
open Go.Proofs.Ob
open Go.Proofs.Cm (Gd)
attribute [local irreducible] Go.Calls Go.wpList
theorem Hpcl0 (args:Array Value) (w:World):(callFunc 81 args).run Tryz.prog w=.ok (.enter 81 args) w:=by kernel_rfl
theorem Hpcl1 (args:Array Value) (w:World):(callFunc 16 args).run Tryz.prog w=.ok (.enter 16 args) w:=by kernel_rfl
theorem Hpcl2 (args:Array Value) (w:World):(callFunc 82 args).run Tryz.prog w=.ok (.enter 82 args) w:=by kernel_rfl
theorem Hpcl3 (args:Array Value) (w:World):(callFunc 18 args).run Tryz.prog w=.ok (.enter 18 args) w:=by kernel_rfl
theorem Hpcl4 (args:Array Value) (w:World):(callFunc 83 args).run Tryz.prog w=.ok (.enter 83 args) w:=by kernel_rfl
theorem Hpcl5 (args:Array Value) (w:World):(callFunc 84 args).run Tryz.prog w=.ok (.enter 84 args) w:=by kernel_rfl
theorem Hpcl6 (args:Array Value) (w:World):(callFunc 22 args).run Tryz.prog w=.ok (.enter 22 args) w:=by kernel_rfl
theorem All_yes {D:Nat} {gs:List (List Nat)} {T0:List (List Nat)} (hz:Ma.gchk ((D:Nat):Int) (gs.map Ma.ofN)=0) (ht:trn gs D=true) (hD:D≤24) (hT:Bk.AllB D gs.length (img gs) T0) (ha:AscL T0) (hf:T0.length≤200000) (gv:Value) (w:World) (h:Rg.Rows w gv (gs.map Ma.ofN)) :
  Calls Tryz.prog 16 #[.agg #[.int .i64 ((D:Nat):Int),gv]] w fun e w'=>∃ v,e=.returned (.tuple #[v,.int .i64 0])∧Rg.Rows w' v (T0.map Ma.ofN)∧Below w.heap.size w w':=by
 refine (All_any gv _ _ w h (fun D' gs' h1 h2 hg _ _ T hn hr=>?_)).mono ?_
 ·obtain rfl:D=D':=by omega
  obtain rfl:=map_ofN_inj h2;exact Nat.le_trans (nodup_le hn fun y hy=>(hT.2 y).2 (hr y hy)) hf
 ·rintro e w' ⟨hb,⟨h0,_⟩ | ⟨_,D',gs',h1,h2,⟨h3,_⟩ | ⟨_,h3,_⟩ | ⟨_,_,T,v,rfl,hr,hall,hasc⟩⟩⟩
  ·exact absurd hz h0
  ·obtain rfl:D=D':=by omega
   obtain rfl:=map_ofN_inj h2;rw [ht] at h3; cases h3
  ·omega
  ·obtain rfl:D=D':=by omega
   obtain rfl:=map_ofN_inj h2;rw [allB_eq hall hasc hT ha] at hr;exact ⟨v,rfl,hr,hb⟩
theorem Prim_b {D:Nat} {gs:List (List Nat)} {b:Bool} (hz:Ma.gchk ((D:Nat):Int) (gs.map Ma.ofN)=0) (hb:b=true↔PrB D gs) (gv:Value) (w:World) (h:Rg.Rows w gv (gs.map Ma.ofN)) :
  Calls Tryz.prog 18 #[.agg #[.int .i64 ((D:Nat):Int),gv]] w fun e w'=>e=.returned (.tuple #[.bool b,.int .i64 0])∧Below w.heap.size w w':=by
 refine (Primitive_any gv _ _ w h).mono ?_
 rintro e w' ⟨hb',⟨h0,_⟩ | ⟨_,D',gs',b',h1,h2,rfl,h3⟩⟩
 ·exact absurd hz h0
 ·obtain rfl:D=D':=by omega
  obtain rfl:=map_ofN_inj h2
  have e:b'=b:=by
   cases b <;> cases b'
   ·rfl
   ·exact absurd (hb.2 (h3.1 rfl)) (by decide)
   ·exact absurd (h3.2 (hb.1 rfl)) (by decide)
   ·rfl
  rw [e]; exact ⟨rfl,hb'⟩
theorem run_buildL3 (X:World) (u1 u2 u3:Value) (h1:∃ a n c,u1=.slice a n c) (h2:∃ a n c,u2=.slice a n c) (h3:∃ a n c,u3=.slice a n c):(Instr.buildSlice 27 3 #[(0,u1),(1,u2),(2,u3)]).run Tryz.prog X=.ok (.slice (some ⟨X.heap.size,0,none⟩) 3 3) (X.alloc (.cells #[u1,u2,u3] 36)):=by
 obtain ⟨i0,hi,hz0,hz1,hz2⟩:=info_parts infoIntsV;obtain ⟨_,_,_,rfl⟩:=h1;obtain ⟨_,_,_,rfl⟩:=h2;obtain ⟨_,_,_,rfl⟩:=h3;refine run_buildSlice X 27 36 3 _ _ i0 _ Tryz.underlying27 hi hz0 (by rw [hz1]; decide) (by rw [hz1]; decide) ?_;generalize (fun x=>((Value.slice none 0 0).cells)[x % (Value.slice none 0 0).cells.size]!)=f;rw [hz1];have h1:Array.range (3*1)=#[0,1,2]:=rfl;simp [Instr.fill,Value.cells,h1]
theorem exec_buildL3 {o:Oper} {a:Act} {w w':World} {v u1 u2 u3:Value} (x1 x2 x3:Operand) (ho:o.op=.buildSlice 27 3 #[(0,x1),(1,x2),(2,x3)]) (h1:a.eval x1=u1) (h2:a.eval x2=u2) (h3:a.eval x3=u3)
  (hr:(Instr.buildSlice 27 3 #[(0,u1),(1,u2),(2,u3)]).run Tryz.prog w=.ok v w'):(execOp a.eval o).run Tryz.prog w=.ok (.value v) w':=by
 subst h1 h2 h3;unfold execOp;simp only [ho,Sem.run_bind,Sem.run_pure];simp only [List.map_toArray,List.map_cons,List.map_nil];rw [hr];rfl
theorem rows3_new {w:World} {u1 u2 u3:Value} {l1 l2 l3:List Int} (h1:Rg.Ints w u1 l1) (h2:Rg.Ints w u2 l2) (h3:Rg.Ints w u3 l3) (t:TypeId):Rg.Rows (w.alloc (.cells #[u1,u2,u3] t)) (.slice (some ⟨w.heap.size,0,none⟩) 3 3) [l1,l2,l3]:=by
 refine ⟨[u1,u2,u3],⟨_,3,rfl,Nat.le_refl _,by show 3≤_; unfold maxLen; omega,by simp [Rg.big],fun _=>⟨w.heap.size,0,rfl,by simp,fun i hi=>?_⟩⟩,rfl,fun i a b=>?_⟩
 ·rw [Nat.zero_add,Rg.cellNew]
  match i,hi with
  | 0,_=>rfl
  | 1,_=>rfl
  | 2,_=>rfl
 ·match i,a,b with
  | 0,_,_=>exact h1.below ((Below.refl _ _).alloc (Nat.le_refl _) _)
  | 1,_,_=>exact h2.below ((Below.refl _ _).alloc (Nat.le_refl _) _)
  | 2,_,_=>exact h3.below ((Below.refl _ _).alloc (Nat.le_refl _) _)
theorem awake12_any (w:World):Calls Tryz.prog 15 #[] w fun e w'=>e=.returned (.bool true)∧Below w.heap.size w w':=by
 have K:=ι (Below.refl w.heap.size w)
 go_enter Tryz.func15,Tryz.ntmps15
 go_upto_region 0 with (fail);refine wp_region_list ?_;refine Rg.la 0 (.bool false) ?_;go_frame;go_upto_region 1 with (fail);refine wp_region_list ?_;refine list_ask (some 6) rfl rfl _ _ (exec_fn1 81 _ _ rfl rfl (Hpcl0 _ _)) ?_;refine (cyclic_any 4 w (by decide) (by decide)).mono ?_;rintro e1 w1 ⟨a1,c1,rfl,hg1,hb⟩;refine ⟨_,rfl,?_⟩;go_frame;replace K:=ι (Rg.acc K.out hb);clear hb;have HG1:=ι hg1;refine list_ask (some 7) rfl rfl _ _ (exec_fn1 16 _ _ rfl rfl (Hpcl1 _ _)) ?_;refine (All_yes (T0:=[[0,0,0,0],[0,1,0,1],[0,1,2,3]]) cy4_g cy4_t (by decide) cy4_all cy4_asc (by decide) _ w1 HG1.out).mono ?_;rintro e1 w2 ⟨v,rfl,hv,hb⟩;refine ⟨_,rfl,?_⟩;go_frame;replace HG1:=ι (HG1.out.below hb);replace K:=ι (Rg.acc K.out hb);clear hb;have AV:=ι hv;refine Rg.lm 5 (.tuple #[v,.int .i64 0]) ?_;go_frame;refine Rg.lr 8 (exec_extract (v:=v) _ _ rfl rfl rfl) ?_;go_frame
 refine Rg.lr 9 (exec_extract (v:=.int .i64 0) _ _ rfl rfl rfl) ?_;go_frame;refine Rg.la 1 (v) ?_;go_frame;refine Rg.la 2 (.int .i64 0) ?_;go_frame;clear hv hg1 HG1;go_upto_region 2 with (fail);refine wp_region_list ?_;refine list_ask (some 11) rfl rfl _ _ (exec_fn0 82 _ rfl (Hpcl2 _ _)) ?_;refine (four12_any w2).mono ?_;rintro e1 w3 ⟨ga,gn,gc,rfl,hgr,hb⟩;refine ⟨_,rfl,?_⟩;go_frame;replace AV:=ι (AV.out.below hb);replace K:=ι (Rg.acc K.out hb);clear hb;have G4:=ι hgr.rows;refine list_ask (some 12) rfl rfl _ _ (exec_fn1 18 _ _ rfl rfl (Hpcl3 _ _)) ?_;refine (Prim_b (D:=4) (gs:=gs4) (b:=true) gs4_g ⟨fun _=>gs4_p,fun _=>rfl⟩ _ w3 G4.out).mono ?_;rintro e1 w4 ⟨rfl,hb⟩;refine ⟨_,rfl,?_⟩;go_frame;replace AV:=ι (AV.out.below hb);replace G4:=ι (G4.out.below hb);replace K:=ι (Rg.acc K.out hb);clear hb;refine Rg.lm 10 (.tuple #[.bool true,.int .i64 0]) ?_;go_frame
 refine Rg.lr 13 (exec_extract (v:=.bool true) _ _ rfl rfl rfl) ?_;go_frame;refine Rg.lr 14 (exec_extract (v:=.int .i64 0) _ _ rfl rfl rfl) ?_;go_frame;refine Rg.la 3 (.bool true) ?_;go_frame;refine Rg.la 4 (.int .i64 0) ?_;go_frame;clear hgr G4;go_upto_region 3 with (fail);refine wp_region_list ?_;refine list_ask (some 15) rfl rfl _ _ (exec_fn1 81 _ _ rfl rfl (Hpcl0 _ _)) ?_;refine (cyclic_any 4 w4 (by decide) (by decide)).mono ?_;rintro e1 w5 ⟨a2,c2,rfl,hg2,hb⟩;refine ⟨_,rfl,?_⟩;go_frame;replace AV:=ι (AV.out.below hb);replace K:=ι (Rg.acc K.out hb);clear hb;have HG2:=ι hg2;have hnew:=ints_new w5 3 [0,1,0,1] (by decide);refine Rg.lr 16 (exec_flat _ _ 4 _ rfl [0,1,0,1] Tryz.underlying36 szInt zInt rfl (by decide) (by decide) rfl) ?_;go_frame;have hb:=(Below.refl w5.heap.size w5).alloc (Nat.le_refl _) (.cells (([0,1,0,1]:List Int).map (Value.int .i64)).toArray 3)
 generalize w5.alloc (.cells (([0,1,0,1]:List Int).map (Value.int .i64)).toArray 3)=w6 at *;replace AV:=ι (AV.out.below hb);replace HG2:=ι (HG2.out.below hb);replace K:=ι (Rg.acc K.out hb);clear hb;have W1:=ι hnew;clear hnew;refine list_ask (some 17) rfl rfl _ _ (exec_fn4 83 _ _ _ _ _ rfl rfl rfl rfl rfl (Hpcl4 _ _)) ?_;refine (least12_any _ 4 [cyl 4] 0 2 [0,1,0,1] _ w6 HG2.out cy4_g (by decide) (by decide) cy4_02 W1.out).mono ?_;rintro e1 w7 ⟨rfl,hb⟩;refine ⟨_,rfl,?_⟩;go_frame;replace AV:=ι (AV.out.below hb);replace HG2:=ι (HG2.out.below hb);replace W1:=ι (W1.out.below hb);replace K:=ι (Rg.acc K.out hb);clear hb;refine Rg.lm 18 (.bool true) ?_;go_frame;refine listW_ask (some 19) rfl rfl _ _ (exec_fn0 84 _ rfl (Hpcl5 _ _)) ?_;refine (two12_any w7).mono ?_;rintro e1 w8 ⟨gb,gm,ge,rfl,hgs,hb⟩;refine ⟨_,rfl,?_⟩;go_frame;replace AV:=ι (AV.out.below hb);replace HG2:=ι (HG2.out.below hb)
 replace W1:=ι (W1.out.below hb);replace K:=ι (Rg.acc K.out hb);clear hb;have G2:=ι hgs.rows;have hnew:=ints_new w8 3 [0,0,0,0] (by decide);refine listW_run (some 20) rfl rfl (exec_flat _ _ 4 _ rfl [0,0,0,0] Tryz.underlying36 szInt zInt rfl (by decide) (by decide) rfl) ?_;go_frame;have hb:=(Below.refl w8.heap.size w8).alloc (Nat.le_refl _) (.cells (([0,0,0,0]:List Int).map (Value.int .i64)).toArray 3);generalize w8.alloc (.cells (([0,0,0,0]:List Int).map (Value.int .i64)).toArray 3)=w9 at *;replace AV:=ι (AV.out.below hb);replace HG2:=ι (HG2.out.below hb);replace W1:=ι (W1.out.below hb);replace G2:=ι (G2.out.below hb);replace K:=ι (Rg.acc K.out hb);clear hb;have W2:=ι hnew;clear hnew;refine listW_ask (some 21) rfl rfl _ _ (exec_fn4 83 _ _ _ _ _ rfl rfl rfl rfl rfl (Hpcl4 _ _)) ?_;refine (least12_any _ 4 gs2 0 2 [0,0,0,0] _ w9 G2.out gs2_g (by decide) (by decide) gs2_02 W2.out).mono ?_
 rintro e1 w10 ⟨rfl,hb⟩;refine ⟨_,rfl,?_⟩;go_frame;replace AV:=ι (AV.out.below hb);replace HG2:=ι (HG2.out.below hb);replace W1:=ι (W1.out.below hb);replace G2:=ι (G2.out.below hb);replace W2:=ι (W2.out.below hb);replace K:=ι (Rg.acc K.out hb);clear hb;refine Rg.lr 22 (exec_pickT (v:=.bool true) _ _ _ rfl rfl rfl) ?_;go_frame;refine Rg.lm 23 (.bool true) ?_;go_frame;refine listW_run (some 24) rfl rfl (Rg.xm (.int .i64 0) _ rfl rfl) ?_;go_frame;refine listW_run (some 25) rfl rfl (exec_eqI _ _ rfl rfl rfl rfl) ?_;go_frame;refine Rg.lr 26 (exec_pickT (v:=.bool true) _ _ _ rfl rfl rfl) ?_;go_frame;refine Rg.lm 27 (.bool true) ?_;go_frame;refine listW_run (some 28) rfl rfl (Rg.xm (v) _ rfl rfl) ?_;go_frame;have hnew:=ints_new w10 3 [0,0,0,0] (by decide);refine listW_run (some 29) rfl rfl (exec_flat _ _ 4 _ rfl [0,0,0,0] Tryz.underlying36 szInt zInt rfl (by decide) (by decide) rfl) ?_;go_frame
 have hb:=(Below.refl w10.heap.size w10).alloc (Nat.le_refl _) (.cells (([0,0,0,0]:List Int).map (Value.int .i64)).toArray 3);generalize w10.alloc (.cells (([0,0,0,0]:List Int).map (Value.int .i64)).toArray 3)=w11 at *;replace AV:=ι (AV.out.below hb);replace HG2:=ι (HG2.out.below hb);replace W1:=ι (W1.out.below hb);replace G2:=ι (G2.out.below hb);replace W2:=ι (W2.out.below hb);replace K:=ι (Rg.acc K.out hb);clear hb;have W3:=ι hnew;clear hnew;have hnew:=ints_new w11 3 [0,1,0,1] (by decide);refine listW_run (some 30) rfl rfl (exec_flat _ _ 4 _ rfl [0,1,0,1] Tryz.underlying36 szInt zInt rfl (by decide) (by decide) rfl) ?_;go_frame;have hb:=(Below.refl w11.heap.size w11).alloc (Nat.le_refl _) (.cells (([0,1,0,1]:List Int).map (Value.int .i64)).toArray 3);generalize w11.alloc (.cells (([0,1,0,1]:List Int).map (Value.int .i64)).toArray 3)=w12 at *
 replace AV:=ι (AV.out.below hb);replace HG2:=ι (HG2.out.below hb);replace W1:=ι (W1.out.below hb);replace G2:=ι (G2.out.below hb);replace W2:=ι (W2.out.below hb);replace W3:=ι (W3.out.below hb);replace K:=ι (Rg.acc K.out hb);clear hb;have W4:=ι hnew;clear hnew;have hnew:=ints_new w12 3 [0,1,2,3] (by decide);refine listW_run (some 31) rfl rfl (exec_flat _ _ 4 _ rfl [0,1,2,3] Tryz.underlying36 szInt zInt rfl (by decide) (by decide) rfl) ?_;go_frame;have hb:=(Below.refl w12.heap.size w12).alloc (Nat.le_refl _) (.cells (([0,1,2,3]:List Int).map (Value.int .i64)).toArray 3);generalize w12.alloc (.cells (([0,1,2,3]:List Int).map (Value.int .i64)).toArray 3)=w13 at *;replace AV:=ι (AV.out.below hb);replace HG2:=ι (HG2.out.below hb);replace W1:=ι (W1.out.below hb);replace G2:=ι (G2.out.below hb);replace W2:=ι (W2.out.below hb);replace W3:=ι (W3.out.below hb)
 replace W4:=ι (W4.out.below hb);replace K:=ι (Rg.acc K.out hb);clear hb;have W5:=ι hnew;clear hnew;have hr3:=rows3_new W3.out W4.out W5.out 36;refine listW_run (some 32) rfl rfl (exec_buildL3 (u1:=.slice (some ⟨w10.heap.size,0,none⟩) 4 4) (u2:=.slice (some ⟨w11.heap.size,0,none⟩) 4 4) (u3:=.slice (some ⟨w12.heap.size,0,none⟩) 4 4) _ _ _ rfl rfl rfl rfl (run_buildL3 w13 _ _ _ ⟨_,_,_,rfl⟩ ⟨_,_,_,rfl⟩ ⟨_,_,_,rfl⟩)) ?_;go_frame;have hb:=(Below.refl w13.heap.size w13).alloc (Nat.le_refl _) (.cells #[.slice (some ⟨w10.heap.size,0,none⟩) 4 4,.slice (some ⟨w11.heap.size,0,none⟩) 4 4,.slice (some ⟨w12.heap.size,0,none⟩) 4 4] 36);generalize w13.alloc (.cells #[.slice (some ⟨w10.heap.size,0,none⟩) 4 4,.slice (some ⟨w11.heap.size,0,none⟩) 4 4,.slice (some ⟨w12.heap.size,0,none⟩) 4 4] 36)=w14 at *;replace AV:=ι (AV.out.below hb);replace HG2:=ι (HG2.out.below hb)
 replace W1:=ι (W1.out.below hb);replace G2:=ι (G2.out.below hb);replace W2:=ι (W2.out.below hb);replace W3:=ι (W3.out.below hb);replace W4:=ι (W4.out.below hb);replace W5:=ι (W5.out.below hb);replace K:=ι (Rg.acc K.out hb);clear hb;have R3:=ι hr3;clear hr3;refine listW_ask (some 33) rfl rfl _ _ (exec_fn 22 _ _ _ rfl rfl rfl (Hpcl6 _ _)) ?_;refine (SameLists_b AV.out R3.out (ι (decide_eq_true rfl))).mono ?_;rintro e1 w15 ⟨rfl,hb⟩;refine ⟨_,rfl,?_⟩;go_frame;replace AV:=ι (AV.out.below hb);replace HG2:=ι (HG2.out.below hb);replace W1:=ι (W1.out.below hb);replace G2:=ι (G2.out.below hb);replace W2:=ι (W2.out.below hb);replace W3:=ι (W3.out.below hb);replace W4:=ι (W4.out.below hb);replace W5:=ι (W5.out.below hb);replace R3:=ι (R3.out.below hb);replace K:=ι (Rg.acc K.out hb);clear hb;refine Rg.lr 34 (exec_pickT (v:=.bool true) _ _ _ rfl rfl rfl) ?_;go_frame
 refine Rg.lm 35 (.bool true) ?_;go_frame;refine listW_run (some 36) rfl rfl (Rg.xm (.bool true) _ rfl rfl) ?_;go_frame;refine Rg.lr 37 (exec_pickT (v:=.bool true) _ _ _ rfl rfl rfl) ?_;go_frame;refine Rg.lm 38 (.bool true) ?_;go_frame;refine listW_run (some 39) rfl rfl (Rg.xm (.int .i64 0) _ rfl rfl) ?_;go_frame;refine listW_run (some 40) rfl rfl (exec_eqI _ _ rfl rfl rfl rfl) ?_;go_frame;refine Rg.lr 41 (exec_pickT (v:=.bool true) _ _ _ rfl rfl rfl) ?_;go_frame;refine Rg.la 0 (.bool true) ?_;go_frame;go_wp2;go_ret;exact ⟨rfl,K.out⟩
structure NpI (w:World) (v:Value) (l:List Int):Prop where
 i:Rg.Ints w v l
theorem NpI.below {w w':World} {v:Value} {l:List Int} (h:NpI w v l) (hb:Below w.heap.size w w'):NpI w' v l:=⟨h.i.below hb⟩

theorem Hrcl5 (args:Array Value) (w:World):(callFunc 103 args).run Tryz.prog w=.ok (.enter 103 args) w:=by kernel_rfl
theorem Hrcl6 (args:Array Value) (w:World):(callFunc 104 args).run Tryz.prog w=.ok (.enter 104 args) w:=by kernel_rfl
theorem bright_any (gv:Value) (d:Int) (ll:List (List Int)) (lv:Value) (l:List Int) (w:World) (h:Rg.Rows w gv ll) (hl:Rg.Ints w lv l) (hll:l.length≤100) :
  Calls Tryz.prog 103 #[.agg #[.int .i64 d,gv],lv] w fun e w'=>e=.returned (.int .i64 (paC d ll l))∧Below w.heap.size w w':=by
 obtain ⟨la,lc,rfl,-⟩:=hl.shape;have HL:=ι (NpI.mk hl);clear hl;obtain ⟨ga,gc,rfl,hga,hba⟩:=GI.enter (d) h;have K:=ι hba;have G0:=ι hga;clear h hga hba;replace HL:=ι (HL.out.below K.out);obtain ⟨gb,hgb⟩:∃ gb,w.heap.size=gb:=⟨_,rfl⟩
 go_enter Tryz.func103,Tryz.ntmps103
 go_upto_region 0 with (fail);refine wp_region_list ?_;refine Rg.lr 2 (Rg.exec_box _ _ rfl rfl) ?_;go_frame;refine Rg.la 4 (.int .i64 0) ?_;go_frame;rw [hgb] at G0 ⊢;have HGB:=ι hgb;clear hgb;generalize w.alloc (.cells #[.int .i64 d,.slice ga ll.length gc] 24)=w0 at *;obtain ⟨ck,hck⟩:∃ c,Hid (Ma.gchk d ll=c):=⟨_,ι rfl⟩;go_upto_region 1 with (fail);refine wp_region_list ?_;refine Rg.lr 9 (Rg.exec_load (v:=.agg #[.int .i64 d,.slice ga ll.length gc]) _ _ rfl ⟨gb,0,none⟩ rfl (run_loadG G0.out.c0 G0.out.c1)) ?_;go_frame;refine list_ask (some 10) rfl rfl _ _ (exec_fn1 85 _ _ rfl rfl (vacl0 _ _)) ?_;refine (orbitCheck_any _ d ll w0 G0.out.rows).mono ?_;rintro e1 w1 ⟨rfl,hb⟩;rw [hck.out];refine ⟨_,rfl,?_⟩;go_frame;replace G0:=ι (G0.out.below hb);replace HL:=ι (HL.out.below hb);replace K:=ι (Rg.acc K.out hb);clear hb;refine Rg.la 5 (.int .i64 ck) ?_;go_frame
 by_cases h0:ck=0
 case neg =>
  skip
  go_upto_region 2 with (fail);refine wp_region_list ?_;refine Rg.lm 11 (.int .i64 ck) ?_;go_frame;refine Rg.lr 12 (exec_bin (R:=.bool true) .neq _ _ _ rfl rfl rfl (b_neqB _ (decide_eq_true h0))) ?_;go_frame;go_upto_region 3 with (fail);refine wp_region_list ?_;refine Rg.lm 13 (.int .i64 ck) ?_;go_frame;refine Rg.la 4 (.int .i64 ck) ?_;go_frame;go_wp2;go_ret;exact ⟨by rw [paC_g hck.out h0]; rfl,K.out⟩
 case pos =>
  have HZ:=ι (hck.out.trans h0);go_upto_region 2 with (fail);refine wp_region_list ?_;refine Rg.lm 11 (.int .i64 ck) ?_;go_frame;refine Rg.lr 12 (exec_bin (R:=.bool false) .neq _ _ _ rfl rfl rfl (b_neqB _ (decide_eq_false (fun e=>e h0)))) ?_;go_frame;clear h0
  have hd64:1≤d∧d≤64:=by
   obtain ⟨D',_,e,_,_,h1,h2,_⟩:=gchk_ok HZ.out;omega
  by_cases hld:(l.length:Int)=d
  case neg =>
   skip
   go_upto_region 4 with (fail);refine wp_region_list ?_;refine Rg.lm 14 (.slice la l.length lc) ?_;go_frame;refine Rg.lr 15 (exec_len _ _ _ rfl Tryz.underlying36 _ _ _ rfl) ?_;go_frame;refine Rg.lr 16 (exec_fieldG0 _ rfl rfl) ?_;go_frame;refine Rg.lr 17 (Rg.exec_load (v:=.int .i64 d) _ _ rfl ⟨gb,0,none⟩ rfl (run_loadInt G0.out.c0)) ?_;go_frame;refine Rg.lr 18 (exec_bin (R:=.bool true) .neq _ _ _ rfl rfl rfl (b_neqB _ (decide_eq_true hld))) ?_;go_frame;go_upto_region 5 with (fail);refine wp_region_list ?_;refine Rg.la 4 (.int .i64 ((3:Nat):Int)) ?_;go_frame;go_wp2;go_ret;exact ⟨by rw [paC_f HZ.out (fun h=>hld h.1)]; rfl,K.out⟩
  case pos =>
   skip
   go_upto_region 4 with (fail);refine wp_region_list ?_;refine Rg.lm 14 (.slice la l.length lc) ?_;go_frame;refine Rg.lr 15 (exec_len _ _ _ rfl Tryz.underlying36 _ _ _ rfl) ?_;go_frame;refine Rg.lr 16 (exec_fieldG0 _ rfl rfl) ?_;go_frame;refine Rg.lr 17 (Rg.exec_load (v:=.int .i64 d) _ _ rfl ⟨gb,0,none⟩ rfl (run_loadInt G0.out.c0)) ?_;go_frame;refine Rg.lr 18 (exec_bin (R:=.bool false) .neq _ _ _ rfl rfl rfl (b_neqB _ (decide_eq_false (fun e=>e hld)))) ?_;go_frame;go_upto_region 6 with (fail);refine wp_region_list ?_;refine Rg.la 6 (.int .i64 ((0:Nat):Int)) ?_;go_frame;go_upto_region 7 with (fail);refine wp_region_list ?_;refine Rg.lm 19 (.slice la l.length lc) ?_;go_frame;refine Rg.lr 20 (exec_len _ _ _ rfl Tryz.underlying36 _ _ _ rfl) ?_;go_frame;refine Rg.lm 21 (.int .i64 ((0:Nat):Int)) ?_;go_frame;have HWB:=ι K.out;have KK:=ι (Below.refl w1.heap.size w1);have HLB:=ι HL.out
   have RT:=ι (Bk.RtI.start l);clear G0 K HL;go_wp2
   go_loopw [6,21] (fun mv iv wr=>∃ m i:Nat,mv=.int .i64 ((m:Nat):Int)∧iv=.int .i64 ((i:Nat):Int)∧i≤l.length∧m≤i∧Hid (Bk.RtI l i m)∧Hid (Below w1.heap.size w1 wr)) (fun _ iv _=>l.length - (intOf iv).toNat)
   case atStart=>exact ⟨0,0,rfl,rfl,Nat.zero_le _,Nat.le_refl _,RT,KK⟩
   case round =>
    clear RT KK;obtain ⟨m,i,rfl,rfl,hi,hmi,RT,KK⟩:=hrel;generalize wr=wd at *
    by_cases hil:i<l.length
    case neg =>
     have hli:l.length=i:=by omega
     go_upto_region 8 with (fail);refine wp_region_list ?_;refine Rg.lr 22 (exec_bin (R:=.bool false) .lss _ _ _ rfl rfl rfl (b_lss _ (decide_eq_false (by omega)))) ?_;go_frame;go_upto_region 15 with (fail);refine wp_region_list ?_;refine Rg.la 4 (.int .i64 ((0:Nat):Int)) ?_;go_frame;go_wp2;go_ret;exact ⟨by rw [paC_z HZ.out ⟨hld,RT.out.done (by omega)⟩]; rfl,Rg.acc HWB.out KK.out⟩
    case pos =>
     obtain ⟨lb,lo,rfl,hlb,hlc⟩:=ints_get HLB.out.i (k:=i) hil;obtain ⟨x,hx⟩:∃ x,Hid (l[i]'hil=x):=⟨_,ι rfl⟩;rw [hx.out] at hlc;have CT:=ι (CL.up (CL.mk hlc hlb) KK.out);have HIL:=ι hil;clear hlb hlc;go_upto_region 8 with (fail);refine wp_region_list ?_;refine Rg.lr 22 (exec_bin (R:=.bool true) .lss _ _ _ rfl rfl rfl (b_lss _ (decide_eq_true (by omega)))) ?_;go_frame;go_upto_region 9 with (fail);refine wp_region_list ?_;refine Rg.lr 23 (exec_indexS slInts _ _ rfl lb (lo) (l.length) lc (i) rfl rfl hil) ?_;go_frame;refine Rg.lr 24 (Rg.exec_load (v:=.int .i64 x) _ _ rfl ⟨lb,lo+i,none⟩ rfl (run_loadInt CT.out.cell)) ?_;go_frame;refine Rg.la 8 (.int .i64 x) ?_;go_frame
     by_cases hx0:x<0
     case pos =>
      have HB:=ι (RT.out.bad hil (.inl (by rw [hx.out]; exact hx0)));go_upto_region 10 with (fail);refine wp_region_list ?_;refine Rg.lm 25 (.int .i64 x) ?_;go_frame;refine Rg.lr 26 (exec_bin (R:=.bool true) .lss _ _ _ rfl rfl rfl (b_lss _ (decide_eq_true hx0))) ?_;go_frame;refine Rg.lm 27 (.bool true) ?_;go_frame;refine listW_pass (some 28) (by kernel_rfl) rfl ?_;go_frame;refine listW_pass (some 29) (by kernel_rfl) rfl ?_;go_frame;refine listW_pass (some 30) (by kernel_rfl) rfl ?_;go_frame;refine Rg.lr 31 (exec_pickT (v:=.bool true) _ _ _ rfl rfl rfl) ?_;go_frame;go_upto_region 11 with (fail);refine wp_region_list ?_;refine Rg.la 4 (.int .i64 ((3:Nat):Int)) ?_;go_frame;go_wp2;go_ret;exact ⟨by rw [paC_f HZ.out (fun h=>HB.out h.2)]; rfl,Rg.acc HWB.out KK.out⟩
     by_cases hxm:(m:Int)<x
     case pos =>
      have HB:=ι (RT.out.bad hil (.inr (by rw [hx.out]; exact hxm)));go_upto_region 10 with (fail);refine wp_region_list ?_;refine Rg.lm 25 (.int .i64 x) ?_;go_frame;refine Rg.lr 26 (exec_bin (R:=.bool false) .lss _ _ _ rfl rfl rfl (b_lss _ (decide_eq_false hx0))) ?_;go_frame;refine Rg.lm 27 (.bool false) ?_;go_frame;refine listW_run (some 28) rfl rfl (Rg.xm (.int .i64 x) _ rfl rfl) ?_;go_frame;refine listW_run (some 29) rfl rfl (Rg.xm (.int .i64 ((m:Nat):Int)) _ rfl rfl) ?_;go_frame;refine listW_run (some 30) rfl rfl (exec_bin (R:=.bool true) .gtr _ _ _ rfl rfl rfl (b_gtr _ (decide_eq_true hxm))) ?_;go_frame;refine Rg.lr 31 (exec_pickF (v:=.bool true) _ _ _ rfl rfl rfl) ?_;go_frame;go_upto_region 11 with (fail);refine wp_region_list ?_;refine Rg.la 4 (.int .i64 ((3:Nat):Int)) ?_;go_frame;go_wp2;go_ret;exact ⟨by rw [paC_f HZ.out (fun h=>HB.out h.2)]; rfl,Rg.acc HWB.out KK.out⟩
     obtain ⟨q,hq⟩:∃ q:Nat,x=q:=⟨x.toNat,by omega⟩;subst hq
     have hqm:q≤m:=by omega
     go_upto_region 10 with (fail);refine wp_region_list ?_;refine Rg.lm 25 (.int .i64 ((q:Nat):Int)) ?_;go_frame;refine Rg.lr 26 (exec_bin (R:=.bool false) .lss _ _ _ rfl rfl rfl (b_lss _ (decide_eq_false (by omega)))) ?_;go_frame;refine Rg.lm 27 (.bool false) ?_;go_frame;refine listW_run (some 28) rfl rfl (Rg.xm (.int .i64 ((q:Nat):Int)) _ rfl rfl) ?_;go_frame;refine listW_run (some 29) rfl rfl (Rg.xm (.int .i64 ((m:Nat):Int)) _ rfl rfl) ?_;go_frame;refine listW_run (some 30) rfl rfl (exec_bin (R:=.bool false) .gtr _ _ _ rfl rfl rfl (b_gtr _ (decide_eq_false (by omega)))) ?_;go_frame;refine Rg.lr 31 (exec_pickF (v:=.bool false) _ _ _ rfl rfl rfl) ?_;go_frame;have RT2:=ι (RT.out.next hil hx.out hqm)
     by_cases hqe:q=m
     case pos =>
      skip
      go_upto_region 12 with (fail);refine wp_region_list ?_;refine Rg.lm 32 (.int .i64 ((q:Nat):Int)) ?_;go_frame;refine Rg.lm 33 (.int .i64 ((m:Nat):Int)) ?_;go_frame;refine Rg.lr 34 (exec_bin (R:=.bool true) .eql _ _ _ rfl rfl rfl (b_eql _ (decide_eq_true (by omega)))) ?_;go_frame;go_upto_region 13 with (fail);refine wp_region_list ?_;refine Rg.lm 35 (.int .i64 ((m:Nat):Int)) ?_;go_frame;refine Rg.lr 36 (exec_bin (R:=.int .i64 (((m+1):Nat):Int)) .add _ _ _ rfl rfl rfl (b_add _ (by omega) (by omega))) ?_;go_frame;refine Rg.la 6 (.int .i64 (((m+1):Nat):Int)) ?_;go_frame;go_upto_region 14 with (fail);refine wp_region_list ?_;refine Rg.lr 37 (exec_bin (R:=.int .i64 (((i+1):Nat):Int)) .add _ _ _ rfl rfl rfl (b_add _ (by omega) (by omega))) ?_;go_frame;refine Rg.lm 21 (.int .i64 (((i+1):Nat):Int)) ?_;go_frame;rw [if_pos hqe] at RT2;go_wp2
      go_roundw
      case rel=>exact ⟨m+1,i+1,by go_num,by go_num,HIL.out,by omega,RT2,KK⟩
      case measure=>simp [intOf]; have:=HIL.out; omega
     case neg =>
      skip
      go_upto_region 12 with (fail);refine wp_region_list ?_;refine Rg.lm 32 (.int .i64 ((q:Nat):Int)) ?_;go_frame;refine Rg.lm 33 (.int .i64 ((m:Nat):Int)) ?_;go_frame;refine Rg.lr 34 (exec_bin (R:=.bool false) .eql _ _ _ rfl rfl rfl (b_eql _ (decide_eq_false (by omega)))) ?_;go_frame;go_upto_region 14 with (fail);refine wp_region_list ?_;refine Rg.lr 37 (exec_bin (R:=.int .i64 (((i+1):Nat):Int)) .add _ _ _ rfl rfl rfl (b_add _ (by omega) (by omega))) ?_;go_frame;refine Rg.lm 21 (.int .i64 (((i+1):Nat):Int)) ?_;go_frame;rw [if_neg hqe] at RT2;go_wp2
      go_roundw
      case rel=>exact ⟨m,i+1,by go_num,by go_num,HIL.out,by omega,RT2,KK⟩
      case measure=>simp [intOf]; have:=HIL.out; omega
theorem syB_no {D:Nat} {gs:List (List Nat)} {L:List Nat} {s i:Nat} (hs:s<gs.length) (hi:i<D) (h:L.getD (img gs s i) 0≠L.getD (img gs s (L.idxOf (L.getD i 0))) 0):syB D gs L=false:=by
 rw [← Bool.not_eq_true];intro e;unfold syB at e;simp only [List.all_eq_true,List.mem_range,decide_eq_true_eq] at e;exact h (e s hs i hi)
def SyI (D:Nat) (gs:List (List Nat)) (L:List Nat) (s i:Nat):Prop:=(∀ s' i',s' < s→i' < D→L.getD (img gs s' i') 0=L.getD (img gs s' (L.idxOf (L.getD i' 0))) 0)∧∀ i',i' < i→L.getD (img gs s i') 0=L.getD (img gs s (L.idxOf (L.getD i' 0))) 0
theorem SyI.done {D:Nat} {gs:List (List Nat)} {L:List Nat} {s i:Nat} (h:SyI D gs L s i) (hs:gs.length≤s):syB D gs L=true:=by
 unfold syB;simp only [List.all_eq_true,List.mem_range,decide_eq_true_eq];exact fun s' hs' i' hi'=>h.1 s' i' (by omega) hi'
theorem SyI.row {D:Nat} {gs:List (List Nat)} {L:List Nat} {s i:Nat} (h:SyI D gs L s i) (hi:D≤i):SyI D gs L (s+1) 0 :=
 ⟨fun s' i' h1 h2=>by
  by_cases e:s'=s
  ·subst e; exact h.2 i' (by omega)
  ·exact h.1 s' i' (by omega) h2,fun _ h=>absurd h (Nat.not_lt_zero _)⟩
theorem SyI.next {D:Nat} {gs:List (List Nat)} {L:List Nat} {s i:Nat} (h:SyI D gs L s i) (he:L.getD (img gs s i) 0=L.getD (img gs s (L.idxOf (L.getD i 0))) 0):SyI D gs L s (i+1) :=
 ⟨h.1,fun i' h1=>by
  by_cases e:i'=i
  ·subst e; exact he
  ·exact h.2 i' (by omega)⟩
theorem system_any (D:Nat) (gv lv:Value) (gs:List (List Nat)) (l:List Nat) (w:World) (hD1:1≤D) (hD:D≤64) (hg:Rg.Rows w gv (gs.map Ma.ofN)) (hgg:GG D gs) (hgl:gs.length≤1000) (hl:Rg.NP w lv l) (hll:l.length=D) :
  Calls Tryz.prog 104 #[.agg #[.int .i64 ((D:Nat):Int),gv],lv] w fun e w'=>e=.returned (.bool (syB D gs l))∧Below w.heap.size w w':=by
 have HG:=ι hg;have HGG:=ι hgg;have HLL:=ι hll
 obtain ⟨lb,lo,lc,hlv,hlb,hlx⟩:∃ b o c,lv=.slice (some ⟨b,o,none⟩) D c∧b<w.heap.size∧∀ i (hi:i<D),w.cell? ⟨b,o+i,none⟩=some (.int .i64 ((l.getD i 0:Nat):Int)):=by
  obtain ⟨a,c,rfl,hc,hm,_,hcell⟩:=hl.shape;obtain ⟨b,o,rfl,hb,hr⟩:=hcell (by omega);refine ⟨b,o,c,by rw [hll],hb,fun i hi=>?_⟩;rw [getN_at (by omega)];exact hr i (by omega)
 subst hlv;have HLC:=ι (show ∀ i,i<D→CL w lb (lo+i) (.int .i64 ((l.getD i 0:Nat):Int)) from fun i hi=>⟨hlx i hi,hlb⟩);have HLV:=ι (NpW.mk hl);clear hl hlx hlb hll;obtain ⟨ga,gc,rfl,hga,hba⟩:=GI.enter ((D:Nat):Int) hg;have K:=ι hba;have G0:=ι hga;clear hg hga hba;obtain ⟨gb,hgb⟩:∃ gb,w.heap.size=gb:=⟨_,rfl⟩
 go_enter Tryz.func104,Tryz.ntmps104
 go_upto_region 0 with (fail);refine wp_region_list ?_;refine Rg.lr 2 (Rg.exec_box _ _ rfl rfl) ?_;go_frame;refine Rg.la 4 (.bool false) ?_;go_frame;rw [hgb] at G0 ⊢;clear hgb;generalize w.alloc (.cells #[.int .i64 ((D:Nat):Int),.slice ga (gs.map Ma.ofN).length gc] 24)=w0 at *;go_upto_region 1 with (fail);refine wp_region_list ?_;refine Rg.lr 9 (exec_fieldG _ rfl rfl) ?_;go_frame;refine Rg.lr 10 (Rg.exec_load (v:=.slice ga (gs.map Ma.ofN).length gc) _ _ rfl ⟨gb,1,none⟩ rfl (Rg.run_loadSl _ _ Tryz.underlying22 G0.out.c1)) ?_;go_frame;refine Rg.lr 11 (exec_len _ _ _ rfl Tryz.underlying22 _ _ _ rfl) ?_;go_frame;refine Rg.lm 12 (.int .i64 ((0:Nat):Int)) ?_;go_frame;have SY:=ι (show SyI D gs l 0 0 from ⟨fun _ _ h=>absurd h (Nat.not_lt_zero _),fun _ h=>absurd h (Nat.not_lt_zero _)⟩);have hlm:(gs.map Ma.ofN).length=gs.length:=List.length_map ..;rw [hlm];clear G0;go_wp2
 go_loopw [12] (fun sv wr=>∃ s:Nat,sv=.int .i64 ((s:Nat):Int)∧s≤gs.length∧Hid (SyI D gs l s 0)∧Hid (Below w.heap.size w wr)) (fun sv _=>gs.length - (intOf sv).toNat)
 case atStart=>exact ⟨0,rfl,Nat.zero_le _,SY,K⟩
 case round =>
  clear SY K;obtain ⟨s,rfl,hs,SY,K⟩:=hrel;generalize wr=wd at *
  by_cases hsg:s<gs.length
  case neg =>
   have hsg2:gs.length=s:=by omega
   go_upto_region 2 with (fail);refine wp_region_list ?_;refine Rg.lr 13 (exec_bin (R:=.bool false) .lss _ _ _ rfl rfl rfl (b_lss _ (decide_eq_false (by omega)))) ?_;go_frame;go_upto_region 11 with (fail);refine wp_region_list ?_;refine Rg.la 4 (.bool true) ?_;go_frame;go_wp2;go_ret;exact ⟨by rw [SY.out.done (by omega)]; rfl,K.out⟩
  case pos =>
   have HSG:=ι hsg
   obtain ⟨gg,go,gu,rfl,hgb2,hgc,hgu⟩:∃ b o u,ga=some ⟨b,o,none⟩∧b<w.heap.size∧w.cell? ⟨b,o+s,none⟩=some u∧Rg.NP w u gs[s]:=by
    obtain ⟨ga',gc',hsh,-,-,-,har⟩:=HG.out.shape;simp only [Value.slice.injEq,true_and] at hsh;obtain ⟨rfl,rfl⟩:=hsh;obtain ⟨b,o,e,hb,hx⟩:=har (by rw [List.length_map]; omega);obtain ⟨u,h1,h2⟩:=hx s (by rw [List.length_map]; exact hsg);exact ⟨b,o,u,e,hb,h1,by rw [List.getElem_map] at h2; exact h2⟩
   have CG:=ι (CL.up (CL.mk hgc hgb2) K.out)
   obtain ⟨sb,so,sc,hsv,hsb,hsx⟩:∃ b o c,gu=.slice (some ⟨b,o,none⟩) D c∧b<w.heap.size∧∀ i (hi:i<D),w.cell? ⟨b,o+i,none⟩=some (.int .i64 ((img gs s i:Nat):Int)):=by
    have hlen:(gs[s]).length=D:=(HGG.out _ (List.getElem_mem hsg)).2;obtain ⟨a,c,rfl,hc,hm,_,hcell⟩:=hgu.shape;obtain ⟨b,o,rfl,hb,hr⟩:=hcell (by omega);refine ⟨b,o,c,by rw [hlen],hb,fun i hi=>?_⟩
    have e:img gs s i=gs[s].getD i 0:=by
     unfold img;rw [List.getD_eq_getElem?_getD (l:=gs),List.getElem?_eq_getElem hsg,Option.getD_some];rfl
    rw [e,getN_at (by omega)];exact hr i (by omega)
   subst hsv;have HSC:=ι (show ∀ i,i<D→CL w sb (so+i) (.int .i64 ((img gs s i:Nat):Int)) from fun i hi=>⟨hsx i hi,hsb⟩);clear hgb2 hgc hgu hsb hsx;go_upto_region 2 with (fail);refine wp_region_list ?_;refine Rg.lr 13 (exec_bin (R:=.bool true) .lss _ _ _ rfl rfl rfl (b_lss _ (decide_eq_true (by omega)))) ?_;go_frame;go_upto_region 3 with (fail);refine wp_region_list ?_;refine Rg.lr 14 (exec_indexS slPerms _ _ rfl gg (go) (gs.length) gc (s) rfl rfl hsg) ?_;go_frame;refine Rg.lr 15 (Rg.exec_load (v:=.slice (some ⟨sb,so,none⟩) D sc) _ _ rfl ⟨gg,go+s,none⟩ rfl (Rg.run_loadSl _ _ Tryz.underlying51 CG.out.cell)) ?_;go_frame;refine Rg.la 6 (.slice (some ⟨sb,so,none⟩) D sc) ?_;go_frame;go_upto_region 4 with (fail);refine wp_region_list ?_;refine Rg.lm 16 (.slice (some ⟨lb,lo,none⟩) D lc) ?_;go_frame;refine Rg.lr 17 (exec_len _ _ _ rfl Tryz.underlying36 _ _ _ rfl) ?_;go_frame
   refine Rg.lm 18 (.int .i64 ((0:Nat):Int)) ?_;go_frame;clear CG;go_wp2
   go_loopw [18] (fun iv wr=>∃ i:Nat,iv=.int .i64 ((i:Nat):Int)∧i≤D∧Hid (SyI D gs l s i)∧Hid (Below w.heap.size w wr)) (fun iv _=>D - (intOf iv).toNat)
   case atStart=>exact ⟨0,rfl,Nat.zero_le _,SY,K⟩
   case round =>
    clear SY K;obtain ⟨i,rfl,hi,SY,K⟩:=hrel;generalize wr=we at *
    by_cases hiD:i<D
    case neg =>
     have hiD2:D=i:=by omega
     go_upto_region 5 with (fail);refine wp_region_list ?_;refine Rg.lr 19 (exec_bin (R:=.bool false) .lss _ _ _ rfl rfl rfl (b_lss _ (decide_eq_false (by omega)))) ?_;go_frame;go_upto_region 10 with (fail);refine wp_region_list ?_;refine Rg.lr 41 (exec_bin (R:=.int .i64 (((s+1):Nat):Int)) .add _ _ _ rfl rfl rfl (b_add _ (by omega) (by omega))) ?_;go_frame;refine Rg.lm 12 (.int .i64 (((s+1):Nat):Int)) ?_;go_frame;go_wp2
     go_roundw
     case rel=>exact ⟨s+1,by go_num,HSG.out,ι (SY.out.row (by omega)),K⟩
     case measure=>simp [intOf]; have:=HSG.out; omega
    case pos =>
     have HID:=ι hiD;obtain ⟨x,hx⟩:∃ x,Hid (l.getD i 0=x):=⟨_,ι rfl⟩;obtain ⟨q,hq⟩:∃ q,Hid (l.idxOf x=q):=⟨_,ι rfl⟩
     have hqD:q<D:=by
      rw [← hq.out,← hx.out];have:=Bk.idxOf_lt (L:=l) (i:=i) (by rw [HLL.out]; exact hiD);rw [HLL.out] at this;exact this
     obtain ⟨si,hsi⟩:∃ x,Hid (img gs s i=x):=⟨_,ι rfl⟩;obtain ⟨sq,hsq⟩:∃ x,Hid (img gs s q=x):=⟨_,ι rfl⟩
     have hsiD:si<D:=by rw [← hsi.out]; exact img_lt HGG.out s i hsg hiD
     have hsqD:sq<D:=by rw [← hsq.out]; exact img_lt HGG.out s q hsg hqD
     obtain ⟨u,hu⟩:∃ x,Hid (l.getD si 0=x):=⟨_,ι rfl⟩;obtain ⟨v,hv⟩:∃ x,Hid (l.getD sq 0=x):=⟨_,ι rfl⟩;have C1:=ι (show CL we lb (lo+i) (.int .i64 ((x:Nat):Int)) by rw [← hx.out]; exact (HLC.out i hiD).up K.out);have C2:=ι (show CL we sb (so+i) (.int .i64 ((si:Nat):Int)) by rw [← hsi.out]; exact (HSC.out i hiD).up K.out);have C3:=ι (show CL we lb (lo+si) (.int .i64 ((u:Nat):Int)) by rw [← hu.out]; exact (HLC.out si hsiD).up K.out);have C4:=ι (show CL we sb (so+q) (.int .i64 ((sq:Nat):Int)) by rw [← hsq.out]; exact (HSC.out q hqD).up K.out);have C5:=ι (show CL we lb (lo+sq) (.int .i64 ((v:Nat):Int)) by rw [← hv.out]; exact (HLC.out sq hsqD).up K.out);have HV2:=ι (HLV.out.below K.out);have HIX:=ι (fun (w2:World) (h2:NpW w2 (.slice (some ⟨lb,lo,none⟩) D lc) l)=>index_n (.slice (some ⟨lb,lo,none⟩) D lc) l i w2 h2.np (by rw [HLL.out]; omega) (by rw [HLL.out]; exact HID.out))
     rw [hx.out,hq.out] at HIX;obtain ⟨bq,hbq⟩:∃ b,Hid (decide (u=v)=b):=⟨_,ι rfl⟩
     have HBQ:=ι (show decide (¬ ((u:Nat):Int)=((v:Nat):Int))=(!bq) by
      rw [← hbq.out]
      by_cases e:u=v
      ·rw [decide_eq_true e,decide_eq_false (fun h=>h (by omega))]; rfl
      ·rw [decide_eq_false e,decide_eq_true (by omega)]; rfl)
     go_upto_region 5 with (fail);refine wp_region_list ?_;refine Rg.lr 19 (exec_bin (R:=.bool true) .lss _ _ _ rfl rfl rfl (b_lss _ (decide_eq_true (by omega)))) ?_;go_frame;go_upto_region 6 with (fail);refine wp_region_list ?_;refine Rg.lm 20 (.int .i64 ((i:Nat):Int)) ?_;go_frame;refine Rg.lr 21 (exec_indexS slInts _ _ rfl lb (lo) (D) lc (i) rfl rfl hiD) ?_;go_frame;refine Rg.lr 22 (Rg.exec_load (v:=.int .i64 ((x:Nat):Int)) _ _ rfl ⟨lb,lo+i,none⟩ rfl (run_loadInt C1.out.cell)) ?_;go_frame;refine Rg.la 7 (.int .i64 ((i:Nat):Int)) ?_;go_frame;refine Rg.la 8 (.int .i64 ((x:Nat):Int)) ?_;go_frame;go_upto_region 7 with (fail);have hV0:Below we.heap.size we we.drew:=(Below.refl _ _).drew;replace C1:=ι (C1.out.below hV0);replace C2:=ι (C2.out.below hV0);replace C3:=ι (C3.out.below hV0);replace C4:=ι (C4.out.below hV0);replace C5:=ι (C5.out.below hV0);replace HV2:=ι (HV2.out.below hV0)
     replace K:=ι (Rg.acc K.out hV0);clear hV0;refine Rg.Any.begin (S:=Rg.Both 16 (fun _=>True) (fun W=>Below we.drew.heap.size we.drew W)) mix ?_;generalize we.drew=w81 at *;have hS:∀ (l:Array Bool) W,Below w81.heap.size w81 W→Rg.Both 16 (fun _=>True) (fun W=>Below w81.heap.size w81 W) l W:=fun l W h=>⟨.inr trivial,h⟩;have hI:Below w81.heap.size w81 w81:=Below.refl _ _;refine Rg.tm 0 16 (.slice (some ⟨lb,lo,none⟩) D lc) 23 (hS _ _ hI) ?_;go_frame;refine Rg.tm 1 16 (.slice (some ⟨sb,so,none⟩) D sc) 24 (hS _ _ hI) ?_;go_frame;refine Rg.tm 2 16 (.int .i64 ((i:Nat):Int)) 25 (hS _ _ hI) ?_;go_frame;refine Rg.tg 3 16 (.pointer (some ⟨sb,so+i,none⟩)) 26 rfl rfl (Rg.yields_index slPerm _ _ rfl rfl sb (so) (D) sc (i) rfl rfl hiD) (hS _ _ hI) ?_;go_frame;refine Rg.tg 4 16 (.int .i64 ((si:Nat):Int)) 27 rfl rfl (Rg.yields_cell _ _ rfl rfl ⟨sb,so+i,none⟩ rfl (fun W hW=>run_loadInt ((Below.cell (p:=⟨sb,so+i,none⟩) hW C2.out.lt).trans C2.out.cell))) (hS _ _ hI) ?_;go_frame
     refine Rg.tg 5 16 (.pointer (some ⟨lb,lo+si,none⟩)) 28 rfl rfl (Rg.yields_index slInts _ _ rfl rfl lb (lo) (D) lc (si) rfl rfl hsiD) (hS _ _ hI) ?_;go_frame;refine Rg.tg 6 16 (.int .i64 ((u:Nat):Int)) 29 rfl rfl (Rg.yields_cell _ _ rfl rfl ⟨lb,lo+si,none⟩ rfl (fun W hW=>run_loadInt ((Below.cell (p:=⟨lb,lo+si,none⟩) hW C3.out.lt).trans C3.out.cell))) (hS _ _ hI) ?_;go_frame;refine Rg.tm 7 16 (.slice (some ⟨lb,lo,none⟩) D lc) 30 (hS _ _ hI) ?_;go_frame;refine Rg.tm 8 16 (.slice (some ⟨sb,so,none⟩) D sc) 31 (hS _ _ hI) ?_;go_frame;refine Rg.tm 9 16 (.slice (some ⟨lb,lo,none⟩) D lc) 32 (hS _ _ hI) ?_;go_frame;refine Rg.tm 10 16 (.int .i64 ((x:Nat):Int)) 33 (hS _ _ hI) ?_;go_frame;refine Rg.Any.one (i:=11) (by kernel_rfl) (Rg.Any.ask (some 34) rfl rfl rfl _ _ (exec_fn 171 _ _ _ rfl rfl rfl (Hjcl2 _ _)) ?_);refine (HIX.out w81 HV2.out).mono ?_;rintro e1 w82 ⟨rfl,hb⟩
     have hI2_0:=Rg.acc hI hb;clear hb hI;refine ⟨_,rfl,(hS _ _ hI2_0),?_⟩;go_frame;refine Rg.tg 12 16 (.pointer (some ⟨sb,so+q,none⟩)) 35 rfl rfl (Rg.yields_index slPerm _ _ rfl rfl sb (so) (D) sc (q) rfl rfl hqD) (hS _ _ hI2_0) ?_;go_frame;refine Rg.tg 13 16 (.int .i64 ((sq:Nat):Int)) 36 rfl rfl (Rg.yields_cell _ _ rfl rfl ⟨sb,so+q,none⟩ rfl (fun W hW=>run_loadInt ((Below.cell (p:=⟨sb,so+q,none⟩) hW C4.out.lt).trans C4.out.cell))) (hS _ _ hI2_0) ?_;go_frame;refine Rg.tg 14 16 (.pointer (some ⟨lb,lo+sq,none⟩)) 37 rfl rfl (Rg.yields_index slInts _ _ rfl rfl lb (lo) (D) lc (sq) rfl rfl hsqD) (hS _ _ hI2_0) ?_;go_frame;refine Rg.tg 15 16 (.int .i64 ((v:Nat):Int)) 38 rfl rfl (Rg.yields_cell _ _ rfl rfl ⟨lb,lo+sq,none⟩ rfl (fun W hW=>run_loadInt ((Below.cell (p:=⟨lb,lo+sq,none⟩) hW C5.out.lt).trans C5.out.cell))) (hS _ _ hI2_0) ?_;go_frame;refine Rg.Any.one (i:=16) (by kernel_rfl) (Rg.Any.run (some 39) rfl rfl rfl (exec_bin (R:=.bool (!bq)) .neq _ _ _ rfl rfl rfl (b_neqB _ HBQ.out)) (hS _ _ hI2_0) ?_)
     go_frame;refine Rg.Any.done (by kernel_rfl) ?_ _;replace C1:=ι (C1.out.below hI2_0);replace C2:=ι (C2.out.below hI2_0);replace C3:=ι (C3.out.below hI2_0);replace C4:=ι (C4.out.below hI2_0);replace C5:=ι (C5.out.below hI2_0);replace HV2:=ι (HV2.out.below hI2_0);replace K:=ι (Rg.acc K.out hI2_0);clear hS hI2_0;clear C1 C2 C3 C4 C5 HV2
     cases bq with
     | true =>
      have SY2:=ι (SY.out.next (by rw [hsi.out,hx.out,hq.out,hsq.out,hu.out,hv.out]; exact of_decide_eq_true hbq.out));go_upto_region 9 with (fail);refine wp_region_list ?_;refine Rg.lr 40 (exec_bin (R:=.int .i64 (((i+1):Nat):Int)) .add _ _ _ rfl rfl rfl (b_add _ (by omega) (by omega))) ?_;go_frame;refine Rg.lm 18 (.int .i64 (((i+1):Nat):Int)) ?_;go_frame;go_wp2
      go_roundw
      case rel=>exact ⟨i+1,by go_num,HID.out,SY2,K⟩
      case measure=>simp [intOf]; have:=HID.out; omega
     | false =>
      have HN:=ι (syB_no hsg hiD (show l.getD (img gs s i) 0≠l.getD (img gs s (l.idxOf (l.getD i 0))) 0 by rw [hsi.out,hx.out,hq.out,hsq.out,hu.out,hv.out]; exact of_decide_eq_false hbq.out));go_upto_region 8 with (fail);refine wp_region_list ?_;refine Rg.la 4 (.bool false) ?_;go_frame;go_wp2;go_ret;exact ⟨by rw [HN.out]; rfl,K.out⟩
theorem Is12_any (gv:Value) (d:Int) (ll:List (List Int)) (lv:Value) (l:List Int) (w:World) (h:Rg.Rows w gv ll) (hl:Rg.Ints w lv l) (hll:l.length≤100) :
  Calls Tryz.prog 29 #[.agg #[.int .i64 d,gv],lv] w fun e w'=>∃ b,e=.returned (.tuple #[.bool b,.int .i64 (paC d ll l)])∧b=(decide (paC d ll l=0) && isBl d ll l)∧Below w.heap.size w w':=by
 obtain ⟨la,lc,rfl,-⟩:=hl.shape;have HL:=ι (NpI.mk hl);clear hl;obtain ⟨ga,gc,rfl,hga,hba⟩:=GI.enter (d) h;have K:=ι hba;have G0:=ι hga;clear h hga hba;replace HL:=ι (HL.out.below K.out);obtain ⟨gb,hgb⟩:∃ gb,w.heap.size=gb:=⟨_,rfl⟩
 go_enter Tryz.func29,Tryz.ntmps29
 go_upto_region 0 with (fail);refine wp_region_list ?_;refine Rg.lr 2 (Rg.exec_box _ _ rfl rfl) ?_;go_frame;refine Rg.la 4 (.bool false) ?_;go_frame;refine Rg.la 5 (.int .i64 0) ?_;go_frame;rw [hgb] at G0 ⊢;have HGB:=ι hgb;clear hgb;generalize w.alloc (.cells #[.int .i64 d,.slice ga ll.length gc] 24)=w0 at *;obtain ⟨ck,hck⟩:∃ c,Hid (paC d ll l=c):=⟨_,ι rfl⟩;go_upto_region 1 with (fail);refine wp_region_list ?_;refine Rg.lr 7 (Rg.exec_load (v:=.agg #[.int .i64 d,.slice ga ll.length gc]) _ _ rfl ⟨gb,0,none⟩ rfl (run_loadG G0.out.c0 G0.out.c1)) ?_;go_frame;refine Rg.lm 8 (.slice la l.length lc) ?_;go_frame;refine list_ask (some 9) rfl rfl _ _ (exec_fn 103 _ _ _ rfl rfl rfl (Hrcl5 _ _)) ?_;refine (bright_any _ d ll _ l w0 G0.out.rows HL.out.i hll).mono ?_;rintro e1 w1 ⟨rfl,hb⟩;rw [hck.out];refine ⟨_,rfl,?_⟩;go_frame;replace G0:=ι (G0.out.below hb);replace HL:=ι (HL.out.below hb)
 replace K:=ι (Rg.acc K.out hb);clear hb;refine Rg.la 6 (.int .i64 ck) ?_;go_frame
 by_cases h0:ck=0
 case neg =>
  skip
  go_upto_region 2 with (fail);refine wp_region_list ?_;refine Rg.lm 10 (.int .i64 ck) ?_;go_frame;refine Rg.lr 11 (exec_bin (R:=.bool true) .neq _ _ _ rfl rfl rfl (b_neqB _ (decide_eq_true h0))) ?_;go_frame;go_upto_region 3 with (fail);refine wp_region_list ?_;refine Rg.lm 12 (.int .i64 ck) ?_;go_frame;refine Rg.la 4 (.bool false) ?_;go_frame;refine Rg.la 5 (.int .i64 ck) ?_;go_frame;go_wp2
  go_ret2
  exact ⟨false,by rw [hck.out]; rfl,by rw [hck.out,decide_eq_false h0]; rfl,K.out⟩
 case pos =>
  have HZ:=ι (hck.out.trans h0);go_upto_region 2 with (fail);refine wp_region_list ?_;refine Rg.lm 10 (.int .i64 ck) ?_;go_frame;refine Rg.lr 11 (exec_bin (R:=.bool false) .neq _ _ _ rfl rfl rfl (b_neqB _ (decide_eq_false (fun e=>e h0)))) ?_;go_frame;clear h0;obtain ⟨hz,D,gs,M,rfl,rfl,rfl,hgg,hD1,hD2,hgl,hML,hMr⟩:=paC_ok HZ.out;have HGG:=ι hgg;have HR:=ι (And.intro hML hMr);have HIB:=ι (isBl_eq D gs M);obtain ⟨sb,hsb⟩:∃ b,Hid (syB D gs M=b):=⟨_,ι rfl⟩;rw [hsb.out] at HIB;clear hz hgg hML hMr;go_upto_region 4 with (fail);refine wp_region_list ?_;refine Rg.lr 13 (Rg.exec_load (v:=.agg #[.int .i64 ((D:Nat):Int),.slice ga (gs.map Ma.ofN).length gc]) _ _ rfl ⟨gb,0,none⟩ rfl (run_loadG G0.out.c0 G0.out.c1)) ?_;go_frame;refine Rg.lm 14 (.slice la (Ma.ofN M).length lc) ?_;go_frame;refine list_ask (some 15) rfl rfl _ _ (exec_fn 104 _ _ _ rfl rfl rfl (Hrcl6 _ _)) ?_
  refine (system_any D _ _ gs M w1 hD1 hD2 G0.out.rows HGG.out (by omega) HL.out.i HR.out.1).mono ?_;rintro e1 w2 ⟨rfl,hb⟩;rw [hsb.out];refine ⟨_,rfl,?_⟩;go_frame;replace G0:=ι (G0.out.below hb);replace HL:=ι (HL.out.below hb);replace K:=ι (Rg.acc K.out hb);clear hb;refine Rg.la 4 (.bool sb) ?_;go_frame;refine Rg.la 5 (.int .i64 ((0:Nat):Int)) ?_;go_frame;go_wp2
  go_ret2
  exact ⟨sb,by rw [HZ.out]; rfl,by rw [HZ.out,HIB.out]; rfl,K.out⟩

structure ZD (w:World) (b d:Nat):Prop where
 lt:b<w.heap.size
 c0:w.cell? ⟨b,0,none⟩=some (.int .i64 ((d:Nat):Int))
 c1:w.cell? ⟨b,1,none⟩=some (.slice none 0 0)
 fr:∀ o,w.frozen? ⟨b,o,none⟩=false
theorem ZD.below {w w':World} {b d:Nat} (h:ZD w b d) (hb:Below w.heap.size w w'):ZD w' b d :=
 ⟨Nat.lt_of_lt_of_le h.lt hb.size,(hb.cell (p:=⟨b,0,none⟩) h.lt).trans h.c0,(hb.cell (p:=⟨b,1,none⟩) h.lt).trans h.c1,fun o=>(hb.frozen (p:=⟨b,o,none⟩) h.lt).trans (h.fr o)⟩
theorem ZD.up {w w':World} {b d:Nat} (h:ZD w b d) (hb:Below w.heap.size w w'):ZD w' b d:=h.below hb
theorem ZD.set {w:World} {b d:Nat} (h:ZD w b d) (e:Nat):ZD (w.setCell ⟨b,0,none⟩ (.int .i64 ((e:Nat):Int))) b e :=
 ⟨by simpa using h.lt,World.cell?_setCell_same (h:=h.c0) ..,by rw [World.cell?_setCell_other (h:=by intro e; injection e with e1 e2; omega) ..]; exact h.c1,fun o=>by rw [World.frozen?_setCell]; exact h.fr o⟩
theorem ZD.start {w W:World} {b d:Nat} (h:ZD W b d) (hb:Below w.heap.size w W) (hlo:w.heap.size≤b):AcM w W b d (fun _=>False) (.slice none 0 0) []:=AcM.start hb ⟨h.c0,h.lt⟩ h.c1 (h.fr 1) hlo
theorem zd_new (w:World) (d:Nat):∃ W,(storeVar 24 ⟨w.heap.size,0,none⟩ (.agg #[.int .i64 ((d:Nat):Int),.slice none 0 0])).run Tryz.prog (w.alloc (.cells #[.int .i64 0,.slice none 0 0] 24))=.ok () W∧ZD W w.heap.size d∧Below w.heap.size w W:=by
 have hz:=ZG.new w;obtain ⟨p0,p1,p2⟩:=group_set (.int .i64 ((d:Nat):Int)) (.slice none 0 0) hz.c0 hz.c1 ((Below.refl w.heap.size w).alloc (Nat.le_refl _) _) (Nat.le_refl _);exact ⟨_,run_storeG _ none 0 0 hz.c0 hz.c1 (hz.fr 0) (hz.fr 1),⟨by simp,p0,p1,fun o=>by rw [World.frozen?_setCell,World.frozen?_setCell]; exact hz.fr o⟩,p2⟩
theorem zg_store {w W:World} {b:Nat} (h:ZG W b) (hb:Below w.heap.size w W) (hlo:w.heap.size≤b) (d:Int) (a:Option Addr) (n c:Nat) :
  ∃ X,(storeVar 24 ⟨b,0,none⟩ (.agg #[.int .i64 d,.slice a n c])).run Tryz.prog W=.ok () X∧X.cell? ⟨b,0,none⟩=some (.int .i64 d)∧X.cell? ⟨b,1,none⟩=some (.slice a n c)∧Below w.heap.size w X∧Rg.Kp (fun z=>z=b) W X:=by
 obtain ⟨p0,p1,p2⟩:=group_set (.int .i64 d) (.slice a n c) h.c0 h.c1 hb hlo;have k1:Rg.Kp (fun z=>z=b) W (W.setCell ⟨b,0,none⟩ (.int .i64 d)):=Rg.Kp.of_setCell rfl;have k2:Rg.Kp (fun z=>z=b) (W.setCell ⟨b,0,none⟩ (.int .i64 d)) ((W.setCell ⟨b,0,none⟩ (.int .i64 d)).setCell ⟨b,1,none⟩ (.slice a n c)):=Rg.Kp.of_setCell rfl;exact ⟨_,run_storeG _ a n c h.c0 h.c1 (h.fr 0) (h.fr 1),p0,p1,p2,Rg.Kp.trans (M:=fun z=>z=b) k1 k2 (fun _ _ e=>e)⟩
def AcPost (d:Int) (ll:List (List Int)) (l:List Int) (w:World) (e:Ending) (w':World):Prop:=∃ v,e=.returned (.tuple #[v,.int .i64 (acC d ll l)])∧AcAns w' d ll l v∧Below w.heap.size w w'
theorem acC_g {d:Int} {ll:List (List Int)} {l:List Int} {c:Int} (h:paC d ll l=c) (hc:c≠0):acC d ll l=c:=by unfold acC; rw [if_neg (by rw [h]; exact hc)]; exact h
theorem acC_f {d:Int} {ll:List (List Int)} {l:List Int} (h:paC d ll l=0) (hc:isBl d ll l=false):acC d ll l=13:=by unfold acC; rw [if_pos h,if_neg (by rw [hc]; decide)]
theorem acC_z {d:Int} {ll:List (List Int)} {l:List Int} (h:paC d ll l=0) (hc:isBl d ll l=true):acC d ll l=0:=by unfold acC; rw [if_pos h,if_pos hc]
theorem GI.at {w:World} {D gb:Nat} {ga:Option Addr} {gc:Nat} {gs:List (List Nat)} (h:GI w gb ((D:Nat):Int) ga (gs.map Ma.ofN) gc) (hg:GG D gs) (hD:1≤D) {s:Nat} (hs:s<gs.length) :
  ∃ b o sb so sc,ga=some ⟨b,o,none⟩∧CL w b (o+s) (.slice (some ⟨sb,so,none⟩) D sc)∧∀ i,i<D→CL w sb (so+i) (.int .i64 ((img gs s i:Nat):Int)):=by
 obtain ⟨ga',gc',hsh,-,-,-,har⟩:=h.rows.shape;simp only [Value.slice.injEq,true_and] at hsh;obtain ⟨rfl,rfl⟩:=hsh;obtain ⟨b,o,e,hb,hx⟩:=har (by rw [List.length_map]; omega);obtain ⟨u,h1,h2⟩:=hx s (by rw [List.length_map]; exact hs);rw [List.getElem_map] at h2;have hlen:(gs[s]).length=D:=(hg _ (List.getElem_mem hs)).2;obtain ⟨a,c,rfl,hc,hm,_,hcell⟩:=Rg.NP.shape (show Rg.NP w u gs[s] from h2);obtain ⟨sb,so,rfl,hsb,hr⟩:=hcell (by omega);refine ⟨b,o,sb,so,c,e,⟨by rw [hlen] at h1; exact h1,hb⟩,fun i hi=>⟨?_,hsb⟩⟩
 have e:img gs s i=gs[s].getD i 0:=by
  unfold img;rw [List.getD_eq_getElem?_getD (l:=gs),List.getElem?_eq_getElem hs,Option.getD_some]
 rw [e,getN_at (by omega)];exact hr i (by omega)
theorem NpI.at {w:World} {lv:Value} {M:List Nat} {D:Nat} (h:NpI w lv (Ma.ofN M)) (hM:M.length=D) (hD:1≤D):∃ b o c,lv=.slice (some ⟨b,o,none⟩) D c∧∀ i,i<D→CL w b (o+i) (.int .i64 ((M.getD i 0:Nat):Int)):=by
 obtain ⟨a,c,rfl,hc,hm,_,hcell⟩:=Rg.NP.shape (show Rg.NP w lv M from h.i);obtain ⟨b,o,rfl,hb,hr⟩:=hcell (by omega);refine ⟨b,o,c,by rw [hM],fun i hi=>⟨?_,hb⟩⟩;rw [getN_at (by omega)];exact hr i (by omega)
theorem made_row (w:World) (n:Nat):RwAt (w.alloc (.cells (madeCells #[.int .i64 0] n) 3)) w.heap.size n (fun _=>0):=by
 have h:=World.rowIs_made w (.int .i64 0) n 3;exact ⟨by simp,fun i hi=>h.cell hi,fun i=>h.frozen i⟩
theorem img_gs {gs:List (List Nat)} {s:Nat} (hs:s<gs.length) (i:Nat):img gs s i=gs[s].getD i 0:=by
 unfold img;rw [List.getD_eq_getElem?_getD (l:=gs),List.getElem?_eq_getElem hs,Option.getD_some]
theorem put_val {D:Nat} {gs:List (List Nat)} {M:List Nat} (hl:M.length=D) (hr:Bk.rgc M 0) (hI:Bk.Inv D gs.length (img gs) M) {s i:Nat} (hs:s<gs.length) (hi:i<D):M.getD (img gs s i) 0=(Bk.acB M gs[s]).getD (M.getD i 0) 0:=by
 have hm:M.getD i 0<Bk.mny M 0:=(Bk.mem_mny hr _).1 (by rw [Bk.getD_lt (by omega)]; exact List.getElem_mem _);rw [Bk.acB_at hm,← img_gs hs];exact (Bk.inv_iff hl).1 hI s i hs hi
theorem fil_put {M g:List Nat} {z:Nat→Int} {i n v:Nat} (hi:i<M.length) (hn:M.getD i 0=n) (hv:v=(Bk.acB M g).getD n 0):(fun c=>if c=n then ((v:Nat):Int) else Bk.fil M g z i c)=Bk.fil M g z (i+1):=by
 funext c
 rw [Bk.fil_step hi,← getN_at hi,hn]
 by_cases e:c=n
 ·rw [if_pos e,if_pos e,hv,e]
 ·rw [if_neg e,if_neg e]
theorem row_done {w:World} {xb cap:Nat} {M g:List Nat} {z:Nat→Int} (h:RwAt w xb (Bk.mny M 0) (Bk.fil M g z M.length)) (hr:Bk.rgc M 0) (hc:Bk.mny M 0≤cap) (hm:cap≤maxLen) (hn:Bk.mny M 0≤1000):Rg.NP w (.slice (some ⟨xb,0,none⟩) (Bk.mny M 0) cap) (Bk.acB M g) :=
 h.np _ (Bk.acB_len M g) hc hm hn (fun i hi=>by
  rw [Bk.acB_len] at hi
  rw [Bk.fil_all hr hi,Bk.getD_lt (by rw [Bk.acB_len]; exact hi)])
theorem np_fp {F:Nat→Prop} {w W:World} {xb n c:Nat} {l:List Nat} (h:Rg.NP W (.slice (some ⟨xb,0,none⟩) n c) l) (h1:w.heap.size≤xb) (h2:xb<W.heap.size):FP (Fup F w W) W (.slice (some ⟨xb,0,none⟩) n c) l :=
 Rg.FVals.of h (fun k e=>by simp [Value.ownBlock] at e; exact .inr ⟨e▸h1,e▸h2⟩)
theorem Action12_any (gv:Value) (d:Int) (ll:List (List Int)) (lv:Value) (l:List Int) (w:World) (h:Rg.Rows w gv ll) (hl:Rg.Ints w lv l) (hll:l.length≤100) :
  Calls Tryz.prog 99 #[.agg #[.int .i64 d,gv],lv] w (AcPost d ll l w):=by
 obtain ⟨la,lc,rfl,-⟩:=hl.shape;have HL:=ι (NpI.mk hl);clear hl;obtain ⟨ga,gc,rfl,hga,hba⟩:=GI.enter (d) h;have K:=ι hba;have G0:=ι hga;clear h hga hba;replace HL:=ι (HL.out.below K.out);obtain ⟨gb,hgb⟩:∃ gb,w.heap.size=gb:=⟨_,rfl⟩
 go_enter Tryz.func99,Tryz.ntmps99
 go_upto_region 0 with (fail);refine wp_region_list ?_;refine Rg.lr 2 (Rg.exec_box _ _ rfl rfl) ?_;go_frame;rw [hgb] at G0 ⊢;have HGB:=ι (show w.heap.size≤gb from Nat.le_of_eq hgb);clear hgb;generalize w.alloc (.cells #[.int .i64 d,.slice ga ll.length gc] 24)=w0 at *;refine Rg.lr 4 (exec_allocG rfl) ?_;go_frame;have hzg:=ZG.new w0;have hb:=(Below.refl w0.heap.size w0).alloc (Nat.le_refl _) (.cells #[.int .i64 0,.slice none 0 0] 24);replace G0:=ι (G0.out.below hb);replace HL:=ι (HL.out.below hb);have HRB:=ι (show w.heap.size≤w0.heap.size from K.out.size);replace K:=ι (Rg.acc K.out hb);obtain ⟨rb,hrb⟩:∃ rb,w0.heap.size=rb:=⟨_,rfl⟩;rw [hrb] at hzg HRB ⊢;generalize w0.alloc (.cells #[.int .i64 0,.slice none 0 0] 24)=w1 at *;have ZF:=ι hzg;clear hzg hb hrb;refine Rg.la 5 (.int .i64 0) ?_;go_frame;obtain ⟨ck,hck⟩:∃ c,Hid (paC d ll l=c):=⟨_,ι rfl⟩;obtain ⟨sb,hsb⟩:∃ b,Hid (isBl d ll l=b):=⟨_,ι rfl⟩
 go_upto_region 1 with (fail);refine wp_region_list ?_;refine Rg.lr 13 (Rg.exec_load (v:=.agg #[.int .i64 d,.slice ga ll.length gc]) _ _ rfl ⟨gb,0,none⟩ rfl (run_loadG G0.out.c0 G0.out.c1)) ?_;go_frame;refine Rg.lm 14 (.slice la l.length lc) ?_;go_frame;refine list_ask (some 15) rfl rfl _ _ (exec_fn 103 _ _ _ rfl rfl rfl (Hrcl5 _ _)) ?_;refine (bright_any _ d ll _ l w1 G0.out.rows HL.out.i hll).mono ?_;rintro e1 w2 ⟨rfl,hb⟩;rw [hck.out];refine ⟨_,rfl,?_⟩;go_frame;replace G0:=ι (G0.out.below hb);replace HL:=ι (HL.out.below hb);replace ZF:=ι (ZF.out.below hb);replace K:=ι (Rg.acc K.out hb);clear hb;refine Rg.la 6 (.int .i64 ck) ?_;go_frame
 by_cases h0:ck=0
 case neg =>
  skip
  go_upto_region 2 with (fail);refine wp_region_list ?_;refine Rg.lm 16 (.int .i64 ck) ?_;go_frame;refine Rg.lr 17 (exec_bin (R:=.bool true) .neq _ _ _ rfl rfl rfl (b_neqB _ (decide_eq_true h0))) ?_;go_frame;go_upto_region 3 with (fail);refine wp_region_list ?_;refine Rg.lr 18 (exec_buildGz rfl) ?_;go_frame;refine Rg.lm 19 (.int .i64 ck) ?_;go_frame;obtain ⟨X1,q1,q2,q3,q4,q5⟩:=zg_store ZF.out K.out HRB.out 0 none 0 0;refine Rg.list_skip none rfl rfl (Rg.exec_store _ _ _ rfl _ rfl _ rfl q1) ?_;go_frame;have HQ:=ι (And.intro q2 (And.intro q3 q4));clear q1 q2 q3 q4 q5;refine Rg.la 5 (.int .i64 ck) ?_;go_frame;go_wp2;exact bodyPost_ret (results_cellG2 rfl _ rfl rfl HQ.out.1 HQ.out.2.1) rfl ⟨_,by rw [acC_g hck.out h0]; rfl,.inl ⟨by rw [acC_g hck.out h0]; exact h0,rfl⟩,HQ.out.2.2⟩
 case pos =>
  have HZ:=ι (hck.out.trans h0);go_upto_region 2 with (fail);refine wp_region_list ?_;refine Rg.lm 16 (.int .i64 ck) ?_;go_frame;refine Rg.lr 17 (exec_bin (R:=.bool false) .neq _ _ _ rfl rfl rfl (b_neqB _ (decide_eq_false (fun e=>e h0)))) ?_;go_frame;clear h0;obtain ⟨hz,D,gs,M,rfl,rfl,rfl,hgg,hD1,hD2,hgl,hML,hMr⟩:=paC_ok HZ.out;have HGG:=ι hgg;have HR:=ι (And.intro hML hMr);have HSY:=ι (show syB D gs M=sb by rw [← isBl_eq]; exact hsb.out);clear hz hgg hML hMr
  cases sb with
  | false =>
   skip
   go_upto_region 4 with (fail);refine wp_region_list ?_;refine Rg.lr 20 (Rg.exec_load (v:=.agg #[.int .i64 ((D:Nat):Int),.slice ga (gs.map Ma.ofN).length gc]) _ _ rfl ⟨gb,0,none⟩ rfl (run_loadG G0.out.c0 G0.out.c1)) ?_;go_frame;refine Rg.lm 21 (.slice la (Ma.ofN M).length lc) ?_;go_frame;refine list_ask (some 22) rfl rfl _ _ (exec_fn 104 _ _ _ rfl rfl rfl (Hrcl6 _ _)) ?_;refine (system_any D _ _ gs M w2 hD1 hD2 G0.out.rows HGG.out (by omega) HL.out.i HR.out.1).mono ?_;rintro e1 w3 ⟨rfl,hb⟩;rw [HSY.out];refine ⟨_,rfl,?_⟩;go_frame;replace G0:=ι (G0.out.below hb);replace HL:=ι (HL.out.below hb);replace ZF:=ι (ZF.out.below hb);replace K:=ι (Rg.acc K.out hb);clear hb;refine Rg.lr 23 (exec_not _ _ false rfl rfl) ?_;go_frame;go_upto_region 5 with (fail);refine wp_region_list ?_;refine Rg.lr 24 (exec_buildGz rfl) ?_;go_frame;obtain ⟨X1,q1,q2,q3,q4,q5⟩:=zg_store ZF.out K.out HRB.out 0 none 0 0
   refine Rg.list_skip none rfl rfl (Rg.exec_store _ _ _ rfl _ rfl _ rfl q1) ?_;go_frame;have HQ:=ι (And.intro q2 (And.intro q3 q4));clear q1 q2 q3 q4 q5;refine Rg.la 5 (.int .i64 ((13:Nat):Int)) ?_;go_frame;go_wp2;exact bodyPost_ret (results_cellG2 rfl _ rfl rfl HQ.out.1 HQ.out.2.1) rfl ⟨_,by rw [acC_f HZ.out hsb.out]; rfl,.inl ⟨by rw [acC_f HZ.out hsb.out]; decide,rfl⟩,HQ.out.2.2⟩
  | true =>
   go_upto_region 4 with (fail);refine wp_region_list ?_;refine Rg.lr 20 (Rg.exec_load (v:=.agg #[.int .i64 ((D:Nat):Int),.slice ga (gs.map Ma.ofN).length gc]) _ _ rfl ⟨gb,0,none⟩ rfl (run_loadG G0.out.c0 G0.out.c1)) ?_;go_frame;refine Rg.lm 21 (.slice la (Ma.ofN M).length lc) ?_;go_frame;refine list_ask (some 22) rfl rfl _ _ (exec_fn 104 _ _ _ rfl rfl rfl (Hrcl6 _ _)) ?_;refine (system_any D _ _ gs M w2 hD1 hD2 G0.out.rows HGG.out (by omega) HL.out.i HR.out.1).mono ?_;rintro e1 w3 ⟨rfl,hb⟩;rw [HSY.out];refine ⟨_,rfl,?_⟩;go_frame;replace G0:=ι (G0.out.below hb);replace HL:=ι (HL.out.below hb);replace ZF:=ι (ZF.out.below hb);replace K:=ι (Rg.acc K.out hb);clear hb;refine Rg.lr 23 (exec_not _ _ true rfl rfl) ?_;go_frame;have HAC:=ι (acC_z HZ.out hsb.out);have HINV:=ι ((syB_iff HR.out.1).1 HSY.out);obtain ⟨dm,hdm⟩:∃ n,Hid (Bk.mny M 0=n):=⟨_,ι rfl⟩
   have hdm1:1≤dm∧dm≤64:=by
    have h1:=(Bk.mem_mny HR.out.2 (M.getD 0 0)).1 (by rw [Bk.getD_lt (by rw [HR.out.1]; omega)]; exact List.getElem_mem _);have h2:=Bk.mny_le M 0;rw [HR.out.1] at h2;rw [hdm.out] at h1 h2;omega
   have hlt:∀ i,i<D→M.getD i 0<dm:=fun i hi=>by
    rw [← hdm.out];exact (Bk.mem_mny HR.out.2 _).1 (by rw [Bk.getD_lt (by rw [HR.out.1]; omega)]; exact List.getElem_mem _)
   have HLT:=ι hlt;clear hlt;obtain ⟨lb,lo,lc',hlv,hlx⟩:=HL.out.at HR.out.1 hD1
   have hll2:(Ma.ofN M).length=D:=by rw [Ma.len_ofN]; exact HR.out.1
   rw [hll2] at HL hlv ⊢
   injection hlv with e1 _ e3
   subst e1 e3;have HLX:=ι hlx;clear hlx;go_upto_region 6 with (fail);refine wp_region_list ?_;refine Rg.lm 25 (.slice (some ⟨lb,lo,none⟩) D lc) ?_;go_frame;refine list_ask (some 26) rfl rfl _ _ (exec_fn1 95 _ _ rfl rfl (Hocl3 _ _)) ?_;refine (Max_any _ M w3 (show Rg.NP _ _ M from HL.out.i) (by rw [HR.out.1]; exact hD1) (by rw [HR.out.1]; omega) (fun x hx=>by have:=Bk.rgc_lt HR.out.2 x hx; rw [HR.out.1] at this; omega)).mono ?_;rintro e1 w4 ⟨mx,rfl,hm1,hm2,hb⟩
   have hmx:mx+1=dm:=by rw [← hdm.out]; exact Bk.max_mny HR.out.2 hm1 hm2
   have HW0:=ι hb;clear hm1 hm2;refine ⟨_,rfl,?_⟩;go_frame;replace G0:=ι (G0.out.below hb);replace HL:=ι (HL.out.below hb);replace ZF:=ι (ZF.out.below hb);replace K:=ι (Rg.acc K.out hb);clear hb;refine Rg.lr 27 (exec_bin (R:=.int .i64 ((dm:Nat):Int)) .add _ _ _ rfl rfl rfl (b_add _ (by omega) (by omega))) ?_;go_frame;refine Rg.lr 28 (exec_buildG1 (d:=((dm:Nat):Int)) _ rfl rfl) ?_;go_frame;obtain ⟨X2,s1,zd,hb2⟩:=zd_new w4 dm;refine Rg.lr 7 (exec_allocG rfl) ?_;go_frame;refine Rg.list_skip none rfl rfl (Rg.exec_store _ _ _ rfl _ rfl _ rfl s1) ?_;go_frame;clear s1;have HWB:=ι K.out;have GB:=ι G0.out;have LB:=ι HL.out;have ZB:=ι ZF.out
   have LX:=ι (fun i (hi:i<D)=>(HLX.out i hi).up (show Below w3.heap.size w3 w4 from by first | exact HW0.out | exact Below.refl _ _))
   obtain ⟨hb3,hhb⟩:∃ b,w4.heap.size=b:=⟨_,rfl⟩;have AM:=ι (show AcM w4 X2 hb3 dm (fun _=>False) (.slice none 0 0) ([].map (Bk.acB M)) by rw [← hhb]; exact zd.start hb2 (Nat.le_refl _));rw [hhb];clear hhb zd hb2 hmx G0 HL ZF HLX HW0 K;have G0:=ι (GB.out.below AM.out.bel);go_upto_region 7 with (fail);refine wp_region_list ?_;refine Rg.lr 29 (exec_fieldG _ rfl rfl) ?_;go_frame;refine Rg.lr 30 (Rg.exec_load (v:=.slice ga (gs.map Ma.ofN).length gc) _ _ rfl ⟨gb,1,none⟩ rfl (Rg.run_loadSl _ _ Tryz.underlying22 G0.out.c1)) ?_;go_frame;refine Rg.lr 31 (exec_len _ _ _ rfl Tryz.underlying22 _ _ _ rfl) ?_;go_frame;refine Rg.lm 32 (.int .i64 ((0:Nat):Int)) ?_;go_frame;have hlm:(gs.map Ma.ofN).length=gs.length:=List.length_map ..;rw [hlm];clear G0;have HMS:=ι hlm;clear hlm;obtain ⟨F0,hF0⟩:∃ F:Nat→Prop,(fun _=>False)=F:=⟨_,rfl⟩;rw [hF0] at AM;clear hF0;go_wp2
   go_loopw [32] (fun sv wr=>∃ (s:Nat) (F:Nat→Prop) (gv:Value),sv=.int .i64 ((s:Nat):Int)∧s≤gs.length∧Hid (AcM w4 wr hb3 dm F gv ((gs.take s).map (Bk.acB M)))) (fun sv _=>gs.length - (intOf sv).toNat)
   case atStart=>exact ⟨0,_,_,rfl,Nat.zero_le _,AM⟩
   case round =>
    clear AM;obtain ⟨s,F,gv,rfl,hs,AM⟩:=hrel;obtain ⟨va,vc,hvs⟩:=AM.out.rw.shape;rw [List.length_map,List.length_take,Nat.min_eq_left hs] at hvs;subst hvs;generalize wr=wd at *;have G0:=ι (GB.out.below AM.out.bel);have ZF:=ι (ZB.out.below AM.out.bel)
    by_cases hsg:s<gs.length
    case neg =>
     have hsg2:s=gs.length:=by omega
     have hc1:(gs.map Ma.ofN).length=gs.length:=HMS.out;have G1:=ι (show wd.cell? ⟨gb,1,none⟩=some (.slice ga gs.length gc) by rw [← hc1]; exact G0.out.c1);go_upto_region 8 with (fail);refine wp_region_list ?_;refine Rg.lr 33 (exec_bin (R:=.bool false) .lss _ _ _ rfl rfl rfl (b_lss _ (decide_eq_false (by omega)))) ?_;go_frame
     have HRW:=ι (show Rg.Rows wd (.slice va s vc) ((gs.map (Bk.acB M)).map Ma.ofN) by
      have h:=AM.out.rw.rows (by rw [List.length_map,List.length_take]; omega);rw [hsg2,List.take_length] at h;rw [hsg2]
      exact h)
     obtain ⟨X1,q1,q2,q3,q4,q5⟩:=zg_store ZF.out (Rg.acc HWB.out AM.out.bel) HRB.out ((dm:Nat):Int) va s vc;have hrk:=AM.out.rw.kp q5 (fun k hk e=>by have h1:=AM.out.Flo k hk; have h2:=ZB.out.lt; omega) (fun k hk e=>by have h1:=(AM.out.rw.lt k hk).1; have h2:=ZB.out.lt; omega)
     have HRW2:=ι (show Rg.Rows X1 (.slice va gs.length vc) ((gs.map (Bk.acB M)).map Ma.ofN) by
      have h:=hrk.rows (by rw [List.length_map,List.length_take]; omega);rw [hsg2,List.take_length] at h
      exact h)
     go_upto_region 18 with (fail);refine wp_region_list ?_;refine Rg.lr 64 (Rg.exec_load (v:=.agg #[.int .i64 ((dm:Nat):Int),.slice va s vc]) _ _ rfl ⟨hb3,0,none⟩ rfl (run_loadG AM.out.g0.cell AM.out.g1)) ?_;go_frame;refine Rg.list_skip none rfl rfl (Rg.exec_store _ _ _ rfl _ rfl _ rfl q1) ?_;go_frame;have HQ:=ι (And.intro q2 (And.intro q3 q4));clear q1 q2 q3 q4 q5 hrk;refine Rg.la 5 (.int .i64 ((0:Nat):Int)) ?_;go_frame;go_wp2;refine bodyPost_ret (results_cellG2 rfl _ rfl rfl HQ.out.1 HQ.out.2.1) rfl ⟨_,by rw [HAC.out]; rfl,.inr ⟨HAC.out,gs,M,va,vc,rfl,rfl,?_,HRW2.out⟩,HQ.out.2.2⟩;rw [hdm.out,hsg2]
    case pos =>
     have HSG:=ι hsg;obtain ⟨gg,go,sb',so,sc,rfl,hcg,hcs⟩:=G0.out.at HGG.out hD1 hsg;have CG:=ι hcg;have CS:=ι hcs;have hc1:(gs.map Ma.ofN).length=gs.length:=HMS.out;have G1:=ι (show wd.cell? ⟨gb,1,none⟩=some (.slice (some ⟨gg,go,none⟩) gs.length gc) by rw [← hc1]; exact G0.out.c1);clear hcg hcs hc1;go_upto_region 8 with (fail);refine wp_region_list ?_;refine Rg.lr 33 (exec_bin (R:=.bool true) .lss _ _ _ rfl rfl rfl (b_lss _ (decide_eq_true (by omega)))) ?_;go_frame;go_upto_region 9 with (fail);refine wp_region_list ?_;refine Rg.lr 34 (exec_indexS slPerms _ _ rfl gg (go) (gs.length) gc (s) rfl rfl hsg) ?_;go_frame;refine Rg.lr 35 (Rg.exec_load (v:=.slice (some ⟨sb',so,none⟩) D sc) _ _ rfl ⟨gg,go+s,none⟩ rfl (Rg.run_loadSl _ _ Tryz.underlying51 CG.out.cell)) ?_;go_frame;refine Rg.la 9 (.slice (some ⟨sb',so,none⟩) D sc) ?_;go_frame;go_upto_region 10 with (fail)
     refine wp_region_list ?_;refine Rg.lr 36 (exec_fieldG0 _ rfl rfl) ?_;go_frame;refine Rg.lr 37 (Rg.exec_load (v:=.int .i64 ((dm:Nat):Int)) _ _ rfl ⟨hb3,0,none⟩ rfl (run_loadInt AM.out.g0.cell)) ?_;go_frame;refine Rg.lr 38 (exec_makeSlice _ _ _ rfl _ _ rfl rfl (mkPerm dm (by omega) wd)) ?_;go_frame;refine Rg.la 10 (.slice (some ⟨wd.heap.size,0,none⟩) dm dm) ?_;go_frame;have hrw:=made_row wd dm;have hbw:Below wd.heap.size wd (wd.alloc (.cells (madeCells #[.int .i64 0] dm) 3)):=(Below.refl _ _).alloc (Nat.le_refl _) _;obtain ⟨xb,hxb⟩:∃ b,wd.heap.size=b:=⟨_,rfl⟩;have HXB:=ι (show wd.heap.size≤xb from Nat.le_of_eq hxb);rw [hxb] at hrw ⊢;generalize wd.alloc (.cells (madeCells #[.int .i64 0] dm) 3)=we at *;have RW:=ι (show RwAt we xb dm (Bk.fil M (gs[s]'hsg) (fun _=>0) 0) by rw [Bk.fil_zero]; exact hrw);have HCAP:=ι (show dm≤dm∧dm≤maxLen from ⟨Nat.le_refl _,by unfold maxLen; omega⟩)
     have KE:=ι hbw;clear hrw hbw hxb;go_upto_region 11 with (fail);refine wp_region_list ?_;refine Rg.lm 39 (.slice (some ⟨lb,lo,none⟩) D lc) ?_;go_frame;refine Rg.lr 40 (exec_len _ _ _ rfl Tryz.underlying36 _ _ _ rfl) ?_;go_frame;refine Rg.lm 41 (.int .i64 ((0:Nat):Int)) ?_;go_frame;go_wp2
     go_loopw [41] (fun iv wr=>∃ i:Nat,iv=.int .i64 ((i:Nat):Int)∧i≤D∧Hid (RwAt wr xb dm (Bk.fil M (gs[s]'HSG.out) (fun _=>0) i))∧Hid (Below wd.heap.size wd wr)) (fun iv _=>D - (intOf iv).toNat)
     case atStart=>exact ⟨0,rfl,Nat.zero_le _,RW,KE⟩
     case round =>
      clear RW KE;obtain ⟨i,rfl,hi,RW,KE⟩:=hrel;generalize wr=wf at *
      by_cases hiD:i<D
      case pos =>
       have HID:=ι hiD;obtain ⟨n,hn⟩:∃ x,Hid (M.getD i 0=x):=⟨_,ι rfl⟩;obtain ⟨j,hj⟩:∃ x,Hid (img gs s i=x):=⟨_,ι rfl⟩;obtain ⟨v,hv⟩:∃ x,Hid (M.getD j 0=x):=⟨_,ι rfl⟩
       have hjD:j<D:=by rw [← hj.out]; exact img_lt HGG.out s i HSG.out hiD
       have hnd:n<dm:=by rw [← hn.out]; exact HLT.out i hiD
       have hvd:v<dm:=by rw [← hv.out]; exact HLT.out j hjD
       have HV9:=ι (show v=(Bk.acB M (gs[s]'HSG.out)).getD n 0 by rw [← hv.out,← hj.out,← hn.out]; exact put_val HR.out.1 HR.out.2 HINV.out HSG.out hiD);have C1:=ι (show CL wf lb (lo+i) (.int .i64 ((n:Nat):Int)) by rw [← hn.out]; exact ((LX.out i hiD).up AM.out.bel).up KE.out);have C2:=ι (show CL wf sb' (so+i) (.int .i64 ((j:Nat):Int)) by rw [← hj.out]; exact (CS.out i hiD).up KE.out);have C3:=ι (show CL wf lb (lo+j) (.int .i64 ((v:Nat):Int)) by rw [← hv.out]; exact ((LX.out j hjD).up AM.out.bel).up KE.out);have CG2:=ι (CG.out.up KE.out);have CG1:=ι (show CL wf gb 1 (.slice (some ⟨gg,go,none⟩) gs.length gc) from CL.up (CL.mk G1.out G0.out.lt) KE.out);obtain ⟨F9,hFd⟩:∃ F:Nat→Prop,F=F:=⟨fun _=>False,rfl⟩;clear hFd;have D1:=ι (show wf.cell? ⟨xb,0+n,none⟩=some (.int .i64 (Bk.fil M (gs[s]'HSG.out) (fun _=>0) i n)) by rw [Nat.zero_add]; exact RW.out.2.1 n hnd)
       have D2:=ι (show wf.frozen? ⟨xb,0+n,none⟩=false by rw [Nat.zero_add]; exact RW.out.2.2 n);go_upto_region 12 with (fail);refine wp_region_list ?_;refine Rg.lr 42 (exec_bin (R:=.bool true) .lss _ _ _ rfl rfl rfl (b_lss _ (decide_eq_true (by omega)))) ?_;go_frame;go_upto_region 13 with (fail);refine wp_region_list ?_;refine Rg.lm 43 (.int .i64 ((i:Nat):Int)) ?_;go_frame;refine Rg.lr 44 (exec_indexS slInts _ _ rfl lb (lo) (D) lc (i) rfl rfl hiD) ?_;go_frame;refine Rg.lr 45 (Rg.exec_load (v:=.int .i64 ((n:Nat):Int)) _ _ rfl ⟨lb,lo+i,none⟩ rfl (run_loadInt C1.out.cell)) ?_;go_frame;refine Rg.la 11 (.int .i64 ((i:Nat):Int)) ?_;go_frame;refine Rg.la 12 (.int .i64 ((n:Nat):Int)) ?_;go_frame;go_upto_region 14 with (fail);refine wp_region_list ?_;refine Rg.lm 46 (.slice (some ⟨xb,0,none⟩) dm dm) ?_;go_frame;refine Rg.lm 47 (.int .i64 ((n:Nat):Int)) ?_;go_frame
       refine Rg.lm 48 (.slice (some ⟨lb,lo,none⟩) D lc) ?_;go_frame;refine Rg.lm 49 (.slice (some ⟨sb',so,none⟩) D sc) ?_;go_frame;refine Rg.lm 50 (.int .i64 ((i:Nat):Int)) ?_;go_frame;refine Rg.lr 51 (exec_indexS slPerm _ _ rfl sb' (so) (D) sc (i) rfl rfl hiD) ?_;go_frame;refine Rg.lr 52 (Rg.exec_load (v:=.int .i64 ((j:Nat):Int)) _ _ rfl ⟨sb',so+i,none⟩ rfl (run_loadInt C2.out.cell)) ?_;go_frame;refine Rg.lr 53 (exec_indexS slInts _ _ rfl lb (lo) (D) lc (j) rfl rfl hjD) ?_;go_frame;refine Rg.lr 54 (Rg.exec_load (v:=.int .i64 ((v:Nat):Int)) _ _ rfl ⟨lb,lo+j,none⟩ rfl (run_loadInt C3.out.cell)) ?_;go_frame;refine Rg.lr 55 (exec_indexS slPerm _ _ rfl xb (0) (dm) dm (n) rfl rfl hnd) ?_;go_frame;refine Rg.list_skip none rfl rfl (Rg.exec_store _ _ _ rfl _ rfl _ rfl (run_storeIntB _ D1.out D2.out)) ?_;go_frame;have hrs:=RW.out.set n ((v:Nat):Int) hnd;rw [fil_put (by rw [HR.out.1]; exact HID.out) hn.out HV9.out] at hrs
       have hks:Below wd.heap.size wd (wf.setCell ⟨xb,0+n,none⟩ (.int .i64 ((v:Nat):Int))):=KE.out.setCell (p:=⟨xb,0+n,none⟩) HXB.out _;rw [Nat.zero_add] at hks ⊢;generalize wf.setCell ⟨xb,n,none⟩ (.int .i64 ((v:Nat):Int))=w98 at *;have RW9:=ι hrs;have KE9:=ι hks;clear hrs hks C1 C2 C3 CG1 CG2;go_upto_region 15 with (fail);refine wp_region_list ?_;refine Rg.lr 56 (exec_bin (R:=.int .i64 (((i+1):Nat):Int)) .add _ _ _ rfl rfl rfl (b_add _ (by omega) (by omega))) ?_;go_frame;refine Rg.lm 41 (.int .i64 (((i+1):Nat):Int)) ?_;go_frame;go_wp2
       go_roundw
       case rel=>exact ⟨i+1,by go_num,HID.out,RW9,KE9⟩
       case measure=>simp [intOf]; have:=HID.out; omega
      case neg =>
       have hiD2:i=D:=by omega
       have NPX:=ι (show Rg.NP wf (.slice (some ⟨xb,0,none⟩) dm dm) (Bk.acB M (gs[s]'HSG.out)) by
        have h:=RW.out;rw [hiD2,← HR.out.1,← hdm.out] at h;have h2:=row_done h HR.out.2 (by rw [hdm.out]; exact HCAP.out.1) HCAP.out.2 (by rw [hdm.out]; omega)
        rwa [hdm.out] at h2)
       have AM2:=ι (AM.out.up KE.out);have HFP:=ι (np_fp (F:=F) NPX.out HXB.out RW.out.1);obtain ⟨a9,c9,X9,r1x,r2,r3,r4⟩:=AM2.out.push HFP.out ⟨_,_,_,rfl⟩ (by rw [List.length_map,List.length_take]; omega) 22;rw [List.length_map,List.length_take,Nat.min_eq_left hs] at r1x r4
       have AM3:=ι (show AcM w4 (X9.setCell ⟨hb3,1,none⟩ (.slice a9 (s+1) c9)) hb3 dm _ (.slice a9 (s+1) c9) ((gs.take (s+1)).map (Bk.acB M)) by
        rw [List.take_succ_eq_append_getElem HSG.out,List.map_append]; exact r4)
       have HR2:=ι r2;have HR3:=ι r3;have AL0:=ι AM2.out.g0;have AL1:=ι AM2.out.g1;clear r2 r3 r4;go_upto_region 12 with (fail);refine wp_region_list ?_;refine Rg.lr 42 (exec_bin (R:=.bool false) .lss _ _ _ rfl rfl rfl (b_lss _ (decide_eq_false (by omega)))) ?_;go_frame;go_upto_region 16 with (fail);refine wp_region_list ?_;refine Rg.lr 57 (exec_fieldG _ rfl rfl) ?_;go_frame;refine Rg.lr 58 (Rg.exec_load (v:=.slice va s vc) _ _ rfl ⟨hb3,1,none⟩ rfl (Rg.run_loadSl _ _ Tryz.underlying22 AL1.out)) ?_;go_frame;refine Rg.lm 59 (.slice (some ⟨xb,0,none⟩) dm dm) ?_;go_frame;refine Rg.lr 60 (Rg.exec_buildSlice _ _ _ rfl (.slice (some ⟨xb,0,none⟩) dm dm) rfl (run_build1P wf _ ⟨_,_,_,rfl⟩)) ?_;go_frame;refine Rg.lr 61 (Rg.exec_append _ _ _ rfl rfl rfl r1x) ?_;go_frame;refine Rg.lr 62 (exec_fieldG _ rfl rfl) ?_;go_frame;refine Rg.list_skip none rfl rfl (Rg.exec_store _ _ _ rfl _ rfl _ rfl (Rg.run_storeSl _ infoPermsV HR2.out HR3.out)) ?_;go_frame
       generalize X9.setCell ⟨hb3,1,none⟩ (.slice a9 (s+1) c9)=w399 at *;clear r1x HR2 HR3;go_upto_region 17 with (fail);refine wp_region_list ?_;refine Rg.lr 63 (exec_bin (R:=.int .i64 (((s+1):Nat):Int)) .add _ _ _ rfl rfl rfl (b_add _ (by omega) (by omega))) ?_;go_frame;refine Rg.lm 32 (.int .i64 (((s+1):Nat):Int)) ?_;go_frame;go_wp2
       go_roundw
       case rel=>exact ⟨s+1,_,_,by go_num,HSG.out,AM3⟩
       case measure=>simp [intOf]; have:=HSG.out; omega

theorem grp_new (w:World) (d:Int) (a:Option Addr) (n c:Nat):∃ X,(storeVar 24 ⟨w.heap.size,0,none⟩ (.agg #[.int .i64 d,.slice a n c])).run Tryz.prog (w.alloc (.cells #[.int .i64 0,.slice none 0 0] 24))=.ok () X∧CL X w.heap.size 0 (.int .i64 d)∧CL X w.heap.size 1 (.slice a n c)∧Below w.heap.size w X:=by
 obtain ⟨X,h1,h2,h3,h4,h5⟩:=zg_store (ZG.new w) ((Below.refl w.heap.size w).alloc (Nat.le_refl _) _) (Nat.le_refl _) d a n c;have h6:=h5.size;have h7:=(ZG.new w).lt;exact ⟨X,h1,⟨h2,by omega⟩,⟨h3,by omega⟩,h4⟩
end Go.Proofs.YthehbckogieimaaGreat
