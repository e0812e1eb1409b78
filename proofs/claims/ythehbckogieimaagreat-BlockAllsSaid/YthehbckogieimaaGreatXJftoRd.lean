/- Lemmas and contracts on the way to the statement; no condition of their own beyond those written. -/
import Derived.Test.YthehbckogieimaaGreatXHvtoJe
import Derived.Deep.MidRow
import Derived.Deep.WholeRow
import Derived.Laws.CopyOwn
import Derived.RangeFuncWrites
import Derived.RangeFuncNested
import Derived.RangeFuncBox
import Derived.RangeFuncLeaves
import Derived.Shelf.Abstract
import Derived.OwnWalkIn
import Derived.TacticsInMore
import Derived.LoopNIn
import Derived.LoopIn
import Derived.Maps.AppendAt
import Derived.Sort.CutIn
import Derived.Deep.CutRange
import Derived.Deep.CutBlock
import Derived.IntWalk
import Derived.Great.BuildSlice
import Derived.ArgAppend
import Derived.StillTailTactics
import Derived.WalkSpells
import Derived.WalkLawsBesides
import Derived.OwnWalk
import Derived.OrdersHeld
import Derived.Deep.OwnRows
import Derived.WalkKit
import Derived.Lib.Hide
import Derived.Laws.OwnMore
import Derived.Test.YthehbckogieimaaGreatProg
import Derived.Outline
import Derived.Deep.DeepFit
import Derived.BigQuiet
import Derived.Deep.QuietTactic
import Derived.Sort.OwnSortedInts
import Derived.WideMake
import Derived.MapKept
import Derived.ChangeMaps5
import Derived.Shelf.Sort.Plain
import Derived.Lib.ConvBytes
import Derived.ChangeKeysEq
import Derived.Laws.Cells
import Derived.Laws.Rows
import Derived.Laws.Tables
import Derived.OrdersIn
import Derived.TacticsIn
import Derived.Deep.LoopGhost
import Derived.Lib.SlicesSearch
import Derived.Stop.BytesEq
import Derived.Shelf.SlSortCmp.Whole1
import Derived.Ground.SlsfProg
import Derived.Lib.SmallJoins
import Derived.Deep.Matrix
set_option linter.unusedVariables false
set_option linter.unusedSimpArgs false
set_option maxRecDepth 100000
set_option maxHeartbeats 8000000
namespace Go.Proofs.YthehbckogieimaaGreat
open Go.RowKit
open Go.Proofs
open Go.Proofs.Ob
open Go.Proofs.Cm (Gd)
attribute [local irreducible] Go.Calls Go.wpList
theorem Jfcl2 (args:Array Value) (w:World):(callFunc 94 args).run Tryz.prog w=.ok (.enter 94 args) w:=by kernel_rfl
theorem Jfcl3 (args:Array Value) (w:World):(callFunc 14 args).run Tryz.prog w=.ok (.enter 14 args) w:=by kernel_rfl
theorem Jfcl4 (args:Array Value) (w:World):(callFunc 15 args).run Tryz.prog w=.ok (.enter 15 args) w:=by kernel_rfl
theorem Jfcl6 (args:Array Value) (w:World):(callFunc 17 args).run Tryz.prog w=.ok (.enter 17 args) w:=by kernel_rfl
theorem Jfcl8 (args:Array Value) (w:World):(callFunc 19 args).run Tryz.prog w=.ok (.enter 19 args) w:=by kernel_rfl
theorem Jfcl9 (args:Array Value) (w:World):(callFunc 20 args).run Tryz.prog w=.ok (.enter 20 args) w:=by kernel_rfl
theorem Jfcl10 (args:Array Value) (w:World):(callFunc 21 args).run Tryz.prog w=.ok (.enter 21 args) w:=by kernel_rfl
theorem refAll_any (gv:Value) (d:Int) (ll:List (List Int)) (w:World) (h:Rg.Rows w gv ll)
  (hbd:∀ (D:Nat) (gs:List (List Nat)),d=D→ll=gs.map Ma.ofN→GG D gs→trn gs D=true→D≤24→∀ T:List (List Nat),T.Nodup→(∀ y∈T,Bk.RcB D gs.length (img gs) y)→T.length≤200000) :
  Calls Tryz.prog 17 #[.agg #[.int .i64 d,gv]] w (AlPost d ll w):=by
 have HBD:=ι hbd;clear hbd;obtain ⟨ga,gc,rfl,hga,hba⟩:=GI.enter (d) h;have K:=ι hba;have G0:=ι hga;clear h hga hba;obtain ⟨ck,hck⟩:∃ c,Hid (Ma.gchk d ll=c):=⟨_,ι rfl⟩
 go_enter Tryz.func17,Tryz.ntmps17
 go_upto_region 0 with (fail);refine wp_region_list ?_;refine Rg.lr 1 (Rg.exec_box _ _ rfl rfl) ?_;go_frame;refine Rg.la 2 (.slice none 0 0) ?_;go_frame;refine Rg.la 3 (.int .i64 0) ?_;go_frame;obtain ⟨gb,hgb⟩:∃ gb,w.heap.size=gb:=⟨_,rfl⟩;rw [hgb] at G0 ⊢;clear hgb;generalize w.alloc (.cells #[.int .i64 d,.slice ga ll.length gc] 24)=w0 at *;go_upto_region 1 with (fail);refine wp_region_list ?_;refine Rg.lr 5 (Rg.exec_load (v:=.agg #[.int .i64 d,.slice ga ll.length gc]) _ _ rfl ⟨gb,0,none⟩ rfl (run_loadG G0.out.c0 G0.out.c1)) ?_;go_frame;refine list_ask (some 6) rfl rfl _ _ (exec_fn1 92 _ _ rfl rfl (Wqcl0 _ _)) ?_;refine (ref07Check_any _ d ll w0 G0.out.rows).mono ?_;rintro e1 w1 ⟨rfl,hb⟩;rw [hck.out];refine ⟨_,rfl,?_⟩;go_frame;replace G0:=ι (G0.out.below hb);replace K:=ι (Rg.acc K.out hb);clear hb;refine Rg.la 4 (.int .i64 ck) ?_;go_frame
 by_cases h0:ck=0
 case neg =>
  skip
  go_upto_region 2 with (fail);refine wp_region_list ?_;refine Rg.lm 7 (.int .i64 ck) ?_;go_frame;refine Rg.lr 8 (exec_bin (R:=.bool true) .neq _ _ _ rfl rfl rfl (b_neqB _ (decide_eq_true h0))) ?_;go_frame;go_upto_region 3 with (fail);refine wp_region_list ?_;refine Rg.lm 9 (.int .i64 ck) ?_;go_frame;refine Rg.la 2 (.slice none 0 0) ?_;go_frame;refine Rg.la 3 (.int .i64 ck) ?_;go_frame;go_wp2
  go_ret2
  exact ⟨K.out,.inl ⟨by rw [hck.out]; exact h0,by rw [hck.out]; rfl⟩⟩
 case pos =>
  have HZ:=ι (hck.out.trans h0);go_upto_region 2 with (fail);refine wp_region_list ?_;refine Rg.lm 7 (.int .i64 ck) ?_;go_frame;refine Rg.lr 8 (exec_bin (R:=.bool false) .neq _ _ _ rfl rfl rfl (b_neqB _ (decide_eq_false (fun e=>e h0)))) ?_;go_frame;clear h0;obtain ⟨D,gs,hD,hgs,hgg,hD1,hD2,hgl⟩:=gchk_ok HZ.out;subst hD hgs;have HGG:=ι hgg;clear hgg;obtain ⟨tb,htb⟩:∃ b,Hid (trn gs D=b):=⟨_,ι rfl⟩
  cases tb
  case false =>
   skip
   go_upto_region 4 with (fail);refine wp_region_list ?_;refine Rg.lr 10 (Rg.exec_load (v:=.agg #[.int .i64 ((D:Nat):Int),.slice ga (gs.map Ma.ofN).length gc]) _ _ rfl ⟨gb,0,none⟩ rfl (run_loadG G0.out.c0 G0.out.c1)) ?_;go_frame;refine list_ask (some 11) rfl rfl _ _ (exec_fn1 93 _ _ rfl rfl (Jccl1 _ _)) ?_;refine (rtrans_any _ D gs w1 HZ.out G0.out.rows).mono ?_;rintro e1 w2 ⟨rfl,hb⟩;rw [htb.out];refine ⟨_,rfl,?_⟩;go_frame;replace G0:=ι (G0.out.below hb);replace K:=ι (Rg.acc K.out hb);clear hb;refine Rg.lr 12 (exec_not _ _ false rfl rfl) ?_;go_frame;go_upto_region 5 with (fail);refine wp_region_list ?_;refine Rg.la 2 (.slice none 0 0) ?_;go_frame;refine Rg.la 3 (.int .i64 ((13:Nat):Int)) ?_;go_frame;go_wp2
   go_ret2
   exact ⟨K.out,.inr ⟨HZ.out,D,gs,rfl,rfl,.inl ⟨htb.out,rfl⟩⟩⟩
  case true =>
   skip
   go_upto_region 4 with (fail);refine wp_region_list ?_;refine Rg.lr 10 (Rg.exec_load (v:=.agg #[.int .i64 ((D:Nat):Int),.slice ga (gs.map Ma.ofN).length gc]) _ _ rfl ⟨gb,0,none⟩ rfl (run_loadG G0.out.c0 G0.out.c1)) ?_;go_frame;refine list_ask (some 11) rfl rfl _ _ (exec_fn1 93 _ _ rfl rfl (Jccl1 _ _)) ?_;refine (rtrans_any _ D gs w1 HZ.out G0.out.rows).mono ?_;rintro e1 w2 ⟨rfl,hb⟩;rw [htb.out];refine ⟨_,rfl,?_⟩;go_frame;replace G0:=ι (G0.out.below hb);replace K:=ι (Rg.acc K.out hb);clear hb;refine Rg.lr 12 (exec_not _ _ true rfl rfl) ?_;go_frame
   by_cases h24:24<D
   case pos =>
    skip
    go_upto_region 6 with (fail);refine wp_region_list ?_;refine Rg.lr 13 (exec_fieldG0 _ rfl rfl) ?_;go_frame;refine Rg.lr 14 (Rg.exec_load (v:=.int .i64 ((D:Nat):Int)) _ _ rfl ⟨gb,0,none⟩ rfl (run_loadInt G0.out.c0)) ?_;go_frame;refine Rg.lr 15 (exec_bin (R:=.bool true) .gtr _ _ _ rfl rfl rfl (b_gtr _ (decide_eq_true (by omega)))) ?_;go_frame;go_upto_region 7 with (fail);refine wp_region_list ?_;refine Rg.la 2 (.slice none 0 0) ?_;go_frame;refine Rg.la 3 (.int .i64 ((5:Nat):Int)) ?_;go_frame;go_wp2
    go_ret2
    exact ⟨K.out,.inr ⟨HZ.out,D,gs,rfl,rfl,.inr (.inl ⟨htb.out,h24,rfl⟩)⟩⟩
   case neg =>
    have hD24:D≤24:=by omega
    clear h24;replace HBD:=ι (HBD.out D gs rfl rfl HGG.out htb.out hD24);go_upto_region 6 with (fail);refine wp_region_list ?_;refine Rg.lr 13 (exec_fieldG0 _ rfl rfl) ?_;go_frame;refine Rg.lr 14 (Rg.exec_load (v:=.int .i64 ((D:Nat):Int)) _ _ rfl ⟨gb,0,none⟩ rfl (run_loadInt G0.out.c0)) ?_;go_frame;refine Rg.lr 15 (exec_bin (R:=.bool false) .gtr _ _ _ rfl rfl rfl (b_gtr _ (decide_eq_false (by omega)))) ?_;go_frame;go_upto_region 8 with (fail);refine wp_region_list ?_;refine Rg.lr 16 (Rg.exec_load (v:=.agg #[.int .i64 ((D:Nat):Int),.slice ga (gs.map Ma.ofN).length gc]) _ _ rfl ⟨gb,0,none⟩ rfl (run_loadG G0.out.c0 G0.out.c1)) ?_;go_frame;refine list_ask (some 17) rfl rfl _ _ (exec_fn1 94 _ _ rfl rfl (Jfcl2 _ _)) ?_;refine (rall_any _ D gs w2 HZ.out G0.out.rows HBD.out).mono ?_;rintro e1 w3 ⟨v,T,rfl,hr,hall,hasc,hb⟩;have HALL:=ι hall;have HASC:=ι hasc;clear hall hasc
    refine ⟨_,rfl,?_⟩;go_frame;replace G0:=ι (G0.out.below hb);replace K:=ι (Rg.acc K.out hb);clear hb;have RV:=ι (RdR.mk hr);refine Rg.la 2 (v) ?_;go_frame;refine Rg.la 3 (.int .i64 ((0:Nat):Int)) ?_;go_frame;go_wp2
    go_ret2
    exact ⟨K.out,.inr ⟨HZ.out,D,gs,rfl,rfl,.inr (.inr ⟨htb.out,hD24,T,v,rfl,RV.out.rows,HALL.out,HASC.out⟩)⟩⟩
def AlIs (w:World) (d:Int) (ll:List (List Int)) (v:Value) (c:Int):Prop :=
 (Ma.gchk d ll≠0∧v=.slice none 0 0∧c=Ma.gchk d ll) ∨
  (Ma.gchk d ll=0∧∃ (D:Nat) (gs:List (List Nat)),d=D∧ll=gs.map Ma.ofN ∧
   ((trn gs D=false∧v=.slice none 0 0∧c=13)∨(trn gs D=true∧24<D∧v=.slice none 0 0∧c=5) ∨
    (trn gs D=true∧D≤24∧∃ T,c=0∧Rg.Rows w v (T.map Ma.ofN)∧Bk.AllB D gs.length (img gs) T∧AscL T)))
theorem AlIs.below {w w':World} {d:Int} {ll:List (List Int)} {v:Value} {c:Int} (h:AlIs w d ll v c) (hb:Below w.heap.size w w'):AlIs w' d ll v c:=by
 rcases h with h | ⟨h0,D,gs,h1,h2,h | h | ⟨h3,h4,T,h5,h6,h7⟩⟩
 ·exact .inl h
 ·exact .inr ⟨h0,D,gs,h1,h2,.inl h⟩
 ·exact .inr ⟨h0,D,gs,h1,h2,.inr (.inl h)⟩
 ·exact .inr ⟨h0,D,gs,h1,h2,.inr (.inr ⟨h3,h4,T,h5,h6.below hb,h7⟩)⟩
theorem AlPost.is {w w':World} {d:Int} {ll:List (List Int)} {e:Ending} (h:AlPost d ll w e w'):∃ v c,e=.returned (.tuple #[v,.int .i64 c])∧AlIs w' d ll v c∧Below w.heap.size w w':=by
 obtain ⟨hb,⟨h0,rfl⟩ | ⟨h0,D,gs,h1,h2,⟨h3,rfl⟩ | ⟨h3,h4,rfl⟩ | ⟨h3,h4,T,v,rfl,h5⟩⟩⟩:=h
 ·exact ⟨_,_,rfl,.inl ⟨h0,rfl,rfl⟩,hb⟩
 ·exact ⟨_,_,rfl,.inr ⟨h0,D,gs,h1,h2,.inl ⟨h3,rfl,rfl⟩⟩,hb⟩
 ·exact ⟨_,_,rfl,.inr ⟨h0,D,gs,h1,h2,.inr (.inl ⟨h3,h4,rfl,rfl⟩)⟩,hb⟩
 ·exact ⟨_,_,rfl,.inr ⟨h0,D,gs,h1,h2,.inr (.inr ⟨h3,h4,T,rfl,h5⟩)⟩,hb⟩
theorem rows_nil0 (w:World):Rg.Rows w (.slice none 0 0) []:=⟨[],⟨none,0,rfl,Nat.le_refl _,by unfold maxLen; omega,by simp,fun h=>by simp at h⟩,rfl,fun i h=>by simp at h⟩
theorem AllB.uniq {n m:Nat} {f:Nat→Nat→Nat} {T T':List (List Nat)} (h:Bk.AllB n m f T) (h':Bk.AllB n m f T') (ha:AscL T) (ha':AscL T'):T.map Ma.ofN=T'.map Ma.ofN:=by
 have hp:T.Perm T':=by
  rw [List.perm_ext_iff_of_nodup h.1 h'.1];exact fun x=>(h.2 x).trans (h'.2 x).symm
 refine List.Perm.eq_of_pairwise (le:=fun a b=>lessL b a=false) ?_ ha ha' (hp.map _);intro a b _ _ h1 h2
 by_cases e:a=b
 ·exact e
 ·have:=lessL_total h2 e
  rw [h1] at this; cases this
theorem AlIs.both {w:World} {d:Int} {ll:List (List Int)} {v v':Value} {c c':Int} (h:AlIs w d ll v c) (h':AlIs w d ll v' c'):c'=c∧∃ l,Rg.Rows w v l∧Rg.Rows w v' l:=by
 rcases h with ⟨h0,rfl,rfl⟩ | ⟨h0,D,gs,h1,h2,h⟩
 ·rcases h' with ⟨k0,rfl,rfl⟩ | ⟨k0,_⟩
  ·exact ⟨rfl,[],rows_nil0 w,rows_nil0 w⟩
  ·exact absurd k0 h0
 ·rcases h' with ⟨k0,_⟩ | ⟨k0,D',gs',k1,k2,h'⟩
  ·exact absurd h0 k0
  ·obtain rfl:D=D':=by omega
   obtain rfl:=map_ofN_inj (h2.symm.trans k2)
   rcases h with ⟨h3,rfl,rfl⟩ | ⟨h3,h4,rfl,rfl⟩ | ⟨h3,h4,T,rfl,h5,h6,h7⟩
   ·rcases h' with ⟨k3,rfl,rfl⟩ | ⟨k3,_⟩ | ⟨k3,_⟩
    ·exact ⟨rfl,[],rows_nil0 w,rows_nil0 w⟩
    ·rw [h3] at k3; cases k3
    ·rw [h3] at k3; cases k3
   ·rcases h' with ⟨k3,_⟩ | ⟨k3,k4,rfl,rfl⟩ | ⟨k3,k4,_⟩
    ·rw [h3] at k3; cases k3
    ·exact ⟨rfl,[],rows_nil0 w,rows_nil0 w⟩
    ·omega
   ·rcases h' with ⟨k3,_⟩ | ⟨k3,k4,_⟩ | ⟨k3,k4,T',rfl,k5,k6,k7⟩
    ·rw [h3] at k3; cases k3
    ·omega
    ·exact ⟨rfl,_,h5,by rw [AllB.uniq h6 k6 h7 k7]; exact k5⟩
def PrIs (d:Int) (ll:List (List Int)) (b:Bool) (c:Int):Prop:=(Ma.gchk d ll≠0∧b=false∧c=Ma.gchk d ll)∨(Ma.gchk d ll=0∧c=0∧∃ (D:Nat) (gs:List (List Nat)),d=D∧ll=gs.map Ma.ofN∧(b=true↔PrB D gs))
theorem PrPost.is {w w':World} {d:Int} {ll:List (List Int)} {e:Ending} (h:PrPost d ll w e w'):∃ b c,e=.returned (.tuple #[.bool b,.int .i64 c])∧PrIs d ll b c∧Below w.heap.size w w':=by
 obtain ⟨hb,⟨h0,rfl⟩ | ⟨h0,D,gs,b,h1,h2,rfl,h3⟩⟩:=h
 ·exact ⟨_,_,rfl,.inl ⟨h0,rfl,rfl⟩,hb⟩
 ·exact ⟨_,_,rfl,.inr ⟨h0,rfl,D,gs,h1,h2,h3⟩,hb⟩
theorem PrIs.both {d:Int} {ll:List (List Int)} {b b':Bool} {c c':Int} (h:PrIs d ll b c) (h':PrIs d ll b' c'):b'=b∧c'=c:=by
 rcases h with ⟨h0,rfl,rfl⟩ | ⟨h0,rfl,D,gs,h1,h2,h3⟩
 ·rcases h' with ⟨k0,rfl,rfl⟩ | ⟨k0,_⟩
  ·exact ⟨rfl,rfl⟩
  ·exact absurd k0 h0
 ·rcases h' with ⟨k0,_⟩ | ⟨k0,rfl,D',gs',k1,k2,k3⟩
  ·exact absurd h0 k0
  ·obtain rfl:D=D':=by omega
   obtain rfl:=map_ofN_inj (h2.symm.trans k2);refine ⟨?_,rfl⟩
   cases b <;> cases b' <;> simp_all
def TvIs (d:Int) (ll:List (List Int)) (k c:Int):Prop:=(Ma.gchk d ll≠0∧k=0∧c=Ma.gchk d ll)∨(Ma.gchk d ll=0∧c=0∧∃ (D:Nat) (gs:List (List Nat)) (k':Nat) (O:List (List Nat)) (R:List (List (List Nat))),d=D∧ll=gs.map Ma.ofN∧k=k'∧Cm.IsChain D (Cm.Gr D (·∈gs)) O R∧TrIs O D k')
theorem TvPost.is {w w':World} {d:Int} {ll:List (List Int)} {e:Ending} (h:TvPost d ll w e w'):∃ k c,e=.returned (.tuple #[.int .i64 k,.int .i64 c])∧TvIs d ll k c∧Below w.heap.size w w':=by
 obtain ⟨hb,⟨h0,rfl⟩ | ⟨h0,D,gs,k,O,R,h1,h2,rfl,h3,h4⟩⟩:=h
 ·exact ⟨_,_,rfl,.inl ⟨h0,rfl,rfl⟩,hb⟩
 ·exact ⟨_,_,rfl,.inr ⟨h0,rfl,D,gs,k,O,R,h1,h2,rfl,h3,h4⟩,hb⟩
theorem TvIs.both {d:Int} {ll:List (List Int)} {k k' c c':Int} (h:TvIs d ll k c) (h':TvIs d ll k' c'):k'=k∧c'=c:=by
 rcases h with ⟨h0,rfl,rfl⟩ | ⟨h0,rfl,D,gs,n,O,R,h1,h2,rfl,h3,h4⟩
 ·rcases h' with ⟨k0,rfl,rfl⟩ | ⟨k0,_⟩
  ·exact ⟨rfl,rfl⟩
  ·exact absurd k0 h0
 ·rcases h' with ⟨k0,_⟩ | ⟨k0,rfl,D',gs',n',O',R',k1,k2,rfl,k3,k4⟩
  ·exact absurd h0 k0
  ·obtain rfl:D=D':=by omega
   obtain rfl:=map_ofN_inj (h2.symm.trans k2);have hO:=(h3.uniq k3).1;subst hO;exact ⟨by rw [k4.uniq h4],rfl⟩
structure AlW (w:World) (d:Int) (ll:List (List Int)) (v:Value) (c:Int):Prop where
 is:AlIs w d ll v c
theorem AlW.below {w w':World} {d:Int} {ll:List (List Int)} {v:Value} {c:Int} (h:AlW w d ll v c) (hb:Below w.heap.size w w'):AlW w' d ll v c:=⟨h.is.below hb⟩
structure RwL (w:World) (v:Value) (l:List (List Int)):Prop where
 r:Rg.Rows w v l
theorem RwL.below {w w':World} {v:Value} {l:List (List Int)} (h:RwL w v l) (hb:Below w.heap.size w w'):RwL w' v l:=⟨h.r.below hb⟩
theorem BlockAlls_any (gv:Value) (d:Int) (ll:List (List Int)) (w:World) (h:Rg.RowsB maxLen w gv ll) :
  Calls Tryz.prog 3 #[.agg #[.int .i64 d,gv]] w fun e w'=>e=.returned (.bool true)∧Below w.heap.size w w':=by
 obtain ⟨ga,gc,rfl,_⟩:=h.shape;have H:=ι h;have hbx:=box2b w (.int .i64 d) (.slice ga ll.length gc);clear h
 go_enter Tryz.func3,Tryz.ntmps3
 go_upto_region 0 with (fail);refine wp_region_list ?_;refine Rg.lr 1 (Rg.exec_box _ _ rfl rfl) ?_;go_frame;have hb:Below w.heap.size w (w.alloc (.cells #[.int .i64 d,.slice ga ll.length gc] 24)):=(Below.refl _ _).alloc (Nat.le_refl _) _;generalize w.alloc (.cells #[.int .i64 d,.slice ga ll.length gc] 24)=w1 at *;have A0:=ι hbx.1;have A1:=ι hbx.2;have K:=ι hb;replace H:=ι (RowsB.lowb H.out hb);clear hbx hb;refine Rg.la 2 (.bool false) ?_;go_frame;obtain ⟨bl,hbl⟩:∃ b,Hid (bg12 d ll=b):=⟨_,ι rfl⟩
 cases bl with
 | true =>
  go_upto_region 1 with (fail);refine wp_region_list ?_;refine Rg.lr 15 (Rg.exec_load (v:=.agg #[.int .i64 d,.slice ga ll.length gc]) _ _ rfl ⟨w.heap.size,0,none⟩ rfl (run_loadG A0.out.cell A1.out.cell)) ?_;go_frame;refine list_ask (some 16) rfl rfl _ _ (exec_fn1 14 _ _ rfl rfl (Jfcl3 _ _)) ?_;refine (big12_any _ d ll w1 H.out).mono ?_;rintro e1 w2 ⟨rfl,hb⟩;rw [hbl.out];refine ⟨_,rfl,?_⟩;go_frame;replace A0:=ι (A0.out.below hb);replace A1:=ι (A1.out.below hb);replace H:=ι (H.out.below hb);replace K:=ι (Rg.acc K.out hb);clear hb;refine Rg.lm 17 (.bool true) ?_;go_frame;refine listW_pass (some 18) (by kernel_rfl) rfl ?_;go_frame;refine listW_pass (some 19) (by kernel_rfl) rfl ?_;go_frame;refine listW_pass (some 20) (by kernel_rfl) rfl ?_;go_frame;refine listW_pass (some 21) (by kernel_rfl) rfl ?_;go_frame;refine listW_pass (some 22) (by kernel_rfl) rfl ?_;go_frame;refine listW_pass (some 23) (by kernel_rfl) rfl ?_;go_frame
  refine listW_pass (some 24) (by kernel_rfl) rfl ?_;go_frame;refine listW_pass (some 25) (by kernel_rfl) rfl ?_;go_frame;refine Rg.lr 26 (exec_pickT (v:=.bool true) _ _ _ rfl rfl rfl) ?_;go_frame;go_upto_region 2 with (fail);refine wp_region_list ?_;refine list_ask (some 27) rfl rfl _ _ (exec_fn0 15 _ rfl (Jfcl4 _ _)) ?_;refine (awake12_any w2).mono ?_;rintro e1 w3 ⟨rfl,hb⟩;refine ⟨_,rfl,?_⟩;go_frame;replace A0:=ι (A0.out.below hb);replace A1:=ι (A1.out.below hb);replace H:=ι (H.out.below hb);replace K:=ι (Rg.acc K.out hb);clear hb;refine Rg.la 2 (.bool true) ?_;go_frame;go_wp2;go_ret;exact ⟨rfl,K.out⟩
 | false =>
  by_cases hd1:10<d
  ·by_cases hd2:d≤64
   ·skip
    go_upto_region 1 with (fail);refine wp_region_list ?_;refine Rg.lr 15 (Rg.exec_load (v:=.agg #[.int .i64 d,.slice ga ll.length gc]) _ _ rfl ⟨w.heap.size,0,none⟩ rfl (run_loadG A0.out.cell A1.out.cell)) ?_;go_frame;refine list_ask (some 16) rfl rfl _ _ (exec_fn1 14 _ _ rfl rfl (Jfcl3 _ _)) ?_;refine (big12_any _ d ll w1 H.out).mono ?_;rintro e1 w12 ⟨rfl,hb⟩;rw [hbl.out];refine ⟨_,rfl,?_⟩;go_frame;replace A0:=ι (A0.out.below hb);replace A1:=ι (A1.out.below hb);replace H:=ι (H.out.below hb);replace K:=ι (Rg.acc K.out hb);clear hb;refine Rg.lm 17 (.bool false) ?_;go_frame;refine listW_run (some 18) rfl rfl (exec_fieldG0 _ rfl rfl) ?_;go_frame;refine listW_run (some 19) rfl rfl (Rg.exec_load (v:=.int .i64 d) _ _ rfl ⟨w.heap.size,0,none⟩ rfl (run_loadInt A0.out.cell)) ?_;go_frame;refine listW_run (some 20) rfl rfl (exec_bin (R:=.bool true) .gtr _ _ _ rfl rfl rfl (b_gtr _ (decide_eq_true hd1))) ?_;go_frame
    refine listW_run (some 21) rfl rfl (Rg.xm (.bool true) _ rfl rfl) ?_;go_frame;refine listW_run (some 22) rfl rfl (exec_fieldG0 _ rfl rfl) ?_;go_frame;refine listW_run (some 23) rfl rfl (Rg.exec_load (v:=.int .i64 d) _ _ rfl ⟨w.heap.size,0,none⟩ rfl (run_loadInt A0.out.cell)) ?_;go_frame;refine listW_run (some 24) rfl rfl (exec_bin (R:=.bool true) .leq _ _ _ rfl rfl rfl (b_leq _ (decide_eq_true hd2))) ?_;go_frame;refine listW_run (some 25) rfl rfl (exec_pickT (v:=.bool true) _ _ _ rfl rfl rfl) ?_;go_frame;refine Rg.lr 26 (exec_pickF (v:=.bool true) _ _ _ rfl rfl rfl) ?_;go_frame;go_upto_region 2 with (fail);refine wp_region_list ?_;refine list_ask (some 27) rfl rfl _ _ (exec_fn0 15 _ rfl (Jfcl4 _ _)) ?_;refine (awake12_any w12).mono ?_;rintro e1 w13 ⟨rfl,hb⟩;refine ⟨_,rfl,?_⟩;go_frame;replace A0:=ι (A0.out.below hb);replace A1:=ι (A1.out.below hb);replace H:=ι (H.out.below hb)
    replace K:=ι (Rg.acc K.out hb);clear hb;refine Rg.la 2 (.bool true) ?_;go_frame;go_wp2;go_ret;exact ⟨rfl,K.out⟩
   ·skip
    go_upto_region 1 with (fail);refine wp_region_list ?_;refine Rg.lr 15 (Rg.exec_load (v:=.agg #[.int .i64 d,.slice ga ll.length gc]) _ _ rfl ⟨w.heap.size,0,none⟩ rfl (run_loadG A0.out.cell A1.out.cell)) ?_;go_frame;refine list_ask (some 16) rfl rfl _ _ (exec_fn1 14 _ _ rfl rfl (Jfcl3 _ _)) ?_;refine (big12_any _ d ll w1 H.out).mono ?_;rintro e1 w32 ⟨rfl,hb⟩;rw [hbl.out];refine ⟨_,rfl,?_⟩;go_frame;replace A0:=ι (A0.out.below hb);replace A1:=ι (A1.out.below hb);replace H:=ι (H.out.below hb);replace K:=ι (Rg.acc K.out hb);clear hb;refine Rg.lm 17 (.bool false) ?_;go_frame;refine listW_run (some 18) rfl rfl (exec_fieldG0 _ rfl rfl) ?_;go_frame;refine listW_run (some 19) rfl rfl (Rg.exec_load (v:=.int .i64 d) _ _ rfl ⟨w.heap.size,0,none⟩ rfl (run_loadInt A0.out.cell)) ?_;go_frame;refine listW_run (some 20) rfl rfl (exec_bin (R:=.bool true) .gtr _ _ _ rfl rfl rfl (b_gtr _ (decide_eq_true hd1))) ?_;go_frame
    refine listW_run (some 21) rfl rfl (Rg.xm (.bool true) _ rfl rfl) ?_;go_frame;refine listW_run (some 22) rfl rfl (exec_fieldG0 _ rfl rfl) ?_;go_frame;refine listW_run (some 23) rfl rfl (Rg.exec_load (v:=.int .i64 d) _ _ rfl ⟨w.heap.size,0,none⟩ rfl (run_loadInt A0.out.cell)) ?_;go_frame;refine listW_run (some 24) rfl rfl (exec_bin (R:=.bool false) .leq _ _ _ rfl rfl rfl (b_leq _ (decide_eq_false hd2))) ?_;go_frame;refine listW_run (some 25) rfl rfl (exec_pickT (v:=.bool false) _ _ _ rfl rfl rfl) ?_;go_frame;refine Rg.lr 26 (exec_pickF (v:=.bool false) _ _ _ rfl rfl rfl) ?_;go_frame
    have hlg:lg ll=false:=by
     have:=hbl.out;unfold bg12 at this;rw [Bool.or_eq_false_iff] at this;exact this.1
    obtain ⟨hs1,hs2⟩:=lg_small hlg;have HR:=ι (show Rg.Rows w32 (.slice ga ll.length gc) ll from H.out.small (by omega) (fun l hl=>by have:=hs2 l hl; omega));have HBD:Hid (∀ (D:Nat) (gs:List (List Nat)),d=D→ll=gs.map Ma.ofN→GG D gs→trn gs D=true→D≤24→∀ T:List (List Nat),T.Nodup→(∀ y∈T,Bk.RcB D gs.length (img gs) y)→T.length≤200000):=ι (fun D gs e _ _ _ h24=>by omega);clear H hlg hs2;go_upto_region 3 with (fail);refine wp_region_list ?_;refine Rg.lr 29 (Rg.exec_load (v:=.agg #[.int .i64 d,.slice ga ll.length gc]) _ _ rfl ⟨w.heap.size,0,none⟩ rfl (run_loadG A0.out.cell A1.out.cell)) ?_;go_frame;refine list_ask (some 30) rfl rfl _ _ (exec_fn1 16 _ _ rfl rfl (Hpcl1 _ _)) ?_;refine ((All_any _ d ll w32 HR.out HBD.out).mono fun _ _ h=>AlPost.is h).mono ?_;rintro e1 w33 ⟨v1,c1,rfl,h1,hb⟩;refine ⟨_,rfl,?_⟩;go_frame;replace A0:=ι (A0.out.below hb)
    replace A1:=ι (A1.out.below hb);replace HR:=ι (HR.out.below hb);replace K:=ι (Rg.acc K.out hb);clear hb;have X1:=ι (AlW.mk h1);refine Rg.lm 28 (.tuple #[v1,.int .i64 c1]) ?_;go_frame;refine Rg.lr 31 (exec_extract (v:=v1) _ _ rfl rfl rfl) ?_;go_frame;refine Rg.lr 32 (exec_extract (v:=.int .i64 c1) _ _ rfl rfl rfl) ?_;go_frame;refine Rg.la 3 (v1) ?_;go_frame;refine Rg.la 4 (.int .i64 c1) ?_;go_frame;go_upto_region 4 with (fail);refine wp_region_list ?_;refine Rg.lr 34 (Rg.exec_load (v:=.agg #[.int .i64 d,.slice ga ll.length gc]) _ _ rfl ⟨w.heap.size,0,none⟩ rfl (run_loadG A0.out.cell A1.out.cell)) ?_;go_frame;refine list_ask (some 35) rfl rfl _ _ (exec_fn1 17 _ _ rfl rfl (Jfcl6 _ _)) ?_;refine ((refAll_any _ d ll w33 HR.out HBD.out).mono fun _ _ h=>AlPost.is h).mono ?_;rintro e1 w34 ⟨v2,c2,rfl,h2,hb⟩;refine ⟨_,rfl,?_⟩;go_frame;replace A0:=ι (A0.out.below hb)
    replace A1:=ι (A1.out.below hb);replace HR:=ι (HR.out.below hb);replace X1:=ι (X1.out.below hb);replace K:=ι (Rg.acc K.out hb);clear hb;have X2:=ι (AlW.mk h2);refine Rg.lm 33 (.tuple #[v2,.int .i64 c2]) ?_;go_frame;refine Rg.lr 36 (exec_extract (v:=v2) _ _ rfl rfl rfl) ?_;go_frame;refine Rg.lr 37 (exec_extract (v:=.int .i64 c2) _ _ rfl rfl rfl) ?_;go_frame;refine Rg.la 5 (v2) ?_;go_frame;refine Rg.la 6 (.int .i64 c2) ?_;go_frame;clear h1 h2;obtain ⟨hc,l,hl1,hl2⟩:=X1.out.is.both X2.out.is;subst hc;have R1:=ι (RwL.mk hl1);have R2:=ι (RwL.mk hl2);clear hl1 hl2 X1 X2;go_upto_region 5 with (fail);refine wp_region_list ?_;refine Rg.lr 39 (Rg.exec_load (v:=.agg #[.int .i64 d,.slice ga ll.length gc]) _ _ rfl ⟨w.heap.size,0,none⟩ rfl (run_loadG A0.out.cell A1.out.cell)) ?_;go_frame;refine list_ask (some 40) rfl rfl _ _ (exec_fn1 18 _ _ rfl rfl (Hpcl3 _ _)) ?_;refine ((Primitive_any _ d ll w34 HR.out).mono fun _ _ h=>PrPost.is h).mono ?_
    rintro e1 w35 ⟨b1,c3,rfl,h1,hb⟩;have P1:=ι h1;clear h1;refine ⟨_,rfl,?_⟩;go_frame;replace A0:=ι (A0.out.below hb);replace A1:=ι (A1.out.below hb);replace HR:=ι (HR.out.below hb);replace R1:=ι (R1.out.below hb);replace R2:=ι (R2.out.below hb);replace K:=ι (Rg.acc K.out hb);clear hb;refine Rg.lm 38 (.tuple #[.bool b1,.int .i64 c3]) ?_;go_frame;refine Rg.lr 41 (exec_extract (v:=.bool b1) _ _ rfl rfl rfl) ?_;go_frame;refine Rg.lr 42 (exec_extract (v:=.int .i64 c3) _ _ rfl rfl rfl) ?_;go_frame;refine Rg.la 7 (.bool b1) ?_;go_frame;refine Rg.la 8 (.int .i64 c3) ?_;go_frame;go_upto_region 6 with (fail);refine wp_region_list ?_;refine Rg.lr 44 (Rg.exec_load (v:=.agg #[.int .i64 d,.slice ga ll.length gc]) _ _ rfl ⟨w.heap.size,0,none⟩ rfl (run_loadG A0.out.cell A1.out.cell)) ?_;go_frame;refine list_ask (some 45) rfl rfl _ _ (exec_fn1 19 _ _ rfl rfl (Jfcl8 _ _)) ?_
    refine ((refPrimitive_any _ d ll w35 HR.out).mono fun _ _ h=>PrPost.is h).mono ?_;rintro e1 w36 ⟨b2,c4,rfl,h2,hb⟩;have P2:=ι h2;clear h2;refine ⟨_,rfl,?_⟩;go_frame;replace A0:=ι (A0.out.below hb);replace A1:=ι (A1.out.below hb);replace HR:=ι (HR.out.below hb);replace R1:=ι (R1.out.below hb);replace R2:=ι (R2.out.below hb);replace K:=ι (Rg.acc K.out hb);clear hb;refine Rg.lm 43 (.tuple #[.bool b2,.int .i64 c4]) ?_;go_frame;refine Rg.lr 46 (exec_extract (v:=.bool b2) _ _ rfl rfl rfl) ?_;go_frame;refine Rg.lr 47 (exec_extract (v:=.int .i64 c4) _ _ rfl rfl rfl) ?_;go_frame;refine Rg.la 9 (.bool b2) ?_;go_frame;refine Rg.la 10 (.int .i64 c4) ?_;go_frame;obtain ⟨hb1,hc1⟩:=P1.out.both P2.out;subst hb1 hc1;clear P1 P2;go_upto_region 7 with (fail);refine wp_region_list ?_;refine Rg.lr 49 (Rg.exec_load (v:=.agg #[.int .i64 d,.slice ga ll.length gc]) _ _ rfl ⟨w.heap.size,0,none⟩ rfl (run_loadG A0.out.cell A1.out.cell)) ?_;go_frame
    refine list_ask (some 50) rfl rfl _ _ (exec_fn1 20 _ _ rfl rfl (Jfcl9 _ _)) ?_;refine ((Transitivity_any _ d ll w36 HR.out).mono fun _ _ h=>TvPost.is h).mono ?_;rintro e1 w37 ⟨k1,c5,rfl,h1,hb⟩;have P1:=ι h1;clear h1;refine ⟨_,rfl,?_⟩;go_frame;replace A0:=ι (A0.out.below hb);replace A1:=ι (A1.out.below hb);replace HR:=ι (HR.out.below hb);replace R1:=ι (R1.out.below hb);replace R2:=ι (R2.out.below hb);replace K:=ι (Rg.acc K.out hb);clear hb;refine Rg.lm 48 (.tuple #[.int .i64 k1,.int .i64 c5]) ?_;go_frame;refine Rg.lr 51 (exec_extract (v:=.int .i64 k1) _ _ rfl rfl rfl) ?_;go_frame;refine Rg.lr 52 (exec_extract (v:=.int .i64 c5) _ _ rfl rfl rfl) ?_;go_frame;refine Rg.la 11 (.int .i64 k1) ?_;go_frame;refine Rg.la 12 (.int .i64 c5) ?_;go_frame;go_upto_region 8 with (fail);refine wp_region_list ?_;refine Rg.lr 54 (Rg.exec_load (v:=.agg #[.int .i64 d,.slice ga ll.length gc]) _ _ rfl ⟨w.heap.size,0,none⟩ rfl (run_loadG A0.out.cell A1.out.cell)) ?_;go_frame
    refine list_ask (some 55) rfl rfl _ _ (exec_fn1 21 _ _ rfl rfl (Jfcl10 _ _)) ?_;refine ((refTransitivity_any _ d ll w37 HR.out).mono fun _ _ h=>TvPost.is h).mono ?_;rintro e1 w38 ⟨k2,c6,rfl,h2,hb⟩;have P2:=ι h2;clear h2;refine ⟨_,rfl,?_⟩;go_frame;replace A0:=ι (A0.out.below hb);replace A1:=ι (A1.out.below hb);replace HR:=ι (HR.out.below hb);replace R1:=ι (R1.out.below hb);replace R2:=ι (R2.out.below hb);replace K:=ι (Rg.acc K.out hb);clear hb;refine Rg.lm 53 (.tuple #[.int .i64 k2,.int .i64 c6]) ?_;go_frame;refine Rg.lr 56 (exec_extract (v:=.int .i64 k2) _ _ rfl rfl rfl) ?_;go_frame;refine Rg.lr 57 (exec_extract (v:=.int .i64 c6) _ _ rfl rfl rfl) ?_;go_frame;refine Rg.la 13 (.int .i64 k2) ?_;go_frame;refine Rg.la 14 (.int .i64 c6) ?_;go_frame;obtain ⟨hb1,hc1⟩:=P1.out.both P2.out;subst hb1 hc1;clear P1 P2;go_upto_region 9 with (fail);refine wp_region_list ?_
    refine Rg.lm 58 (v1) ?_;go_frame;refine Rg.lm 59 (v2) ?_;go_frame;refine list_ask (some 60) rfl rfl _ _ (exec_fn 22 _ _ _ rfl rfl rfl (Hpcl6 _ _)) ?_;refine (SameLists_b R1.out.r R2.out.r (ι (decide_eq_true rfl))).mono ?_;rintro e1 w39 ⟨rfl,hb⟩;refine ⟨_,rfl,?_⟩;go_frame;replace A0:=ι (A0.out.below hb);replace A1:=ι (A1.out.below hb);replace HR:=ι (HR.out.below hb);replace R1:=ι (R1.out.below hb);replace R2:=ι (R2.out.below hb);replace K:=ι (Rg.acc K.out hb);clear hb;refine Rg.lm 61 (.bool true) ?_;go_frame;refine listW_run (some 62) rfl rfl (Rg.xm (.int .i64 c2) _ rfl rfl) ?_;go_frame;refine listW_run (some 63) rfl rfl (Rg.xm (.int .i64 c2) _ rfl rfl) ?_;go_frame;refine listW_run (some 64) rfl rfl (exec_eqI _ _ rfl rfl rfl rfl) ?_;go_frame;refine Rg.lr 65 (exec_pickT (v:=.bool true) _ _ _ rfl rfl rfl) ?_;go_frame;refine Rg.lm 66 (.bool true) ?_;go_frame;refine listW_run (some 67) rfl rfl (Rg.xm (.bool b2) _ rfl rfl) ?_;go_frame
    refine listW_run (some 68) rfl rfl (Rg.xm (.bool b2) _ rfl rfl) ?_;go_frame;refine listW_run (some 69) rfl rfl (exec_eqB _ _ rfl rfl rfl) ?_;go_frame;refine Rg.lr 70 (exec_pickT (v:=.bool true) _ _ _ rfl rfl rfl) ?_;go_frame;refine Rg.lm 71 (.bool true) ?_;go_frame;refine listW_run (some 72) rfl rfl (Rg.xm (.int .i64 c4) _ rfl rfl) ?_;go_frame;refine listW_run (some 73) rfl rfl (Rg.xm (.int .i64 c4) _ rfl rfl) ?_;go_frame;refine listW_run (some 74) rfl rfl (exec_eqI _ _ rfl rfl rfl rfl) ?_;go_frame;refine Rg.lr 75 (exec_pickT (v:=.bool true) _ _ _ rfl rfl rfl) ?_;go_frame;refine Rg.lm 76 (.bool true) ?_;go_frame;refine listW_run (some 77) rfl rfl (Rg.xm (.int .i64 k2) _ rfl rfl) ?_;go_frame;refine listW_run (some 78) rfl rfl (Rg.xm (.int .i64 k2) _ rfl rfl) ?_;go_frame;refine listW_run (some 79) rfl rfl (exec_bin (R:=.bool true) .eql _ _ _ rfl rfl rfl (b_eql _ (decide_eq_true rfl))) ?_;go_frame
    refine Rg.lr 80 (exec_pickT (v:=.bool true) _ _ _ rfl rfl rfl) ?_;go_frame;refine Rg.lm 81 (.bool true) ?_;go_frame;refine listW_run (some 82) rfl rfl (Rg.xm (.int .i64 c6) _ rfl rfl) ?_;go_frame;refine listW_run (some 83) rfl rfl (Rg.xm (.int .i64 c6) _ rfl rfl) ?_;go_frame;refine listW_run (some 84) rfl rfl (exec_eqI _ _ rfl rfl rfl rfl) ?_;go_frame;refine Rg.lr 85 (exec_pickT (v:=.bool true) _ _ _ rfl rfl rfl) ?_;go_frame;refine Rg.lm 86 (.bool true) ?_;go_frame;refine listW_ask (some 87) rfl rfl _ _ (exec_fn0 15 _ rfl (Jfcl4 _ _)) ?_;refine (awake12_any w39).mono ?_;rintro e1 w40 ⟨rfl,hb⟩;refine ⟨_,rfl,?_⟩;go_frame;replace A0:=ι (A0.out.below hb);replace A1:=ι (A1.out.below hb);replace HR:=ι (HR.out.below hb);replace R1:=ι (R1.out.below hb);replace R2:=ι (R2.out.below hb);replace K:=ι (Rg.acc K.out hb);clear hb;refine Rg.lr 88 (exec_pickT (v:=.bool true) _ _ _ rfl rfl rfl) ?_;go_frame
    refine Rg.la 2 (.bool true) ?_;go_frame;go_wp2;go_ret;exact ⟨rfl,K.out⟩
  ·skip
   go_upto_region 1 with (fail);refine wp_region_list ?_;refine Rg.lr 15 (Rg.exec_load (v:=.agg #[.int .i64 d,.slice ga ll.length gc]) _ _ rfl ⟨w.heap.size,0,none⟩ rfl (run_loadG A0.out.cell A1.out.cell)) ?_;go_frame;refine list_ask (some 16) rfl rfl _ _ (exec_fn1 14 _ _ rfl rfl (Jfcl3 _ _)) ?_;refine (big12_any _ d ll w1 H.out).mono ?_;rintro e1 w32 ⟨rfl,hb⟩;rw [hbl.out];refine ⟨_,rfl,?_⟩;go_frame;replace A0:=ι (A0.out.below hb);replace A1:=ι (A1.out.below hb);replace H:=ι (H.out.below hb);replace K:=ι (Rg.acc K.out hb);clear hb;refine Rg.lm 17 (.bool false) ?_;go_frame;refine listW_run (some 18) rfl rfl (exec_fieldG0 _ rfl rfl) ?_;go_frame;refine listW_run (some 19) rfl rfl (Rg.exec_load (v:=.int .i64 d) _ _ rfl ⟨w.heap.size,0,none⟩ rfl (run_loadInt A0.out.cell)) ?_;go_frame;refine listW_run (some 20) rfl rfl (exec_bin (R:=.bool false) .gtr _ _ _ rfl rfl rfl (b_gtr _ (decide_eq_false hd1))) ?_;go_frame
   refine listW_run (some 21) rfl rfl (Rg.xm (.bool false) _ rfl rfl) ?_;go_frame;refine listW_pass (some 22) (by kernel_rfl) rfl ?_;go_frame;refine listW_pass (some 23) (by kernel_rfl) rfl ?_;go_frame;refine listW_pass (some 24) (by kernel_rfl) rfl ?_;go_frame;refine listW_run (some 25) rfl rfl (exec_pickF (v:=.bool false) _ _ _ rfl rfl rfl) ?_;go_frame;refine Rg.lr 26 (exec_pickF (v:=.bool false) _ _ _ rfl rfl rfl) ?_;go_frame
   have hlg:lg ll=false:=by
    have:=hbl.out;unfold bg12 at this;rw [Bool.or_eq_false_iff] at this;exact this.1
   obtain ⟨hs1,hs2⟩:=lg_small hlg;have HR:=ι (show Rg.Rows w32 (.slice ga ll.length gc) ll from H.out.small (by omega) (fun l hl=>by have:=hs2 l hl; omega));have HBD:Hid (∀ (D:Nat) (gs:List (List Nat)),d=D→ll=gs.map Ma.ofN→GG D gs→trn gs D=true→D≤24→∀ T:List (List Nat),T.Nodup→(∀ y∈T,Bk.RcB D gs.length (img gs) y)→T.length≤200000):=ι (hbd_10 (by omega));clear H hlg hs2;go_upto_region 3 with (fail);refine wp_region_list ?_;refine Rg.lr 29 (Rg.exec_load (v:=.agg #[.int .i64 d,.slice ga ll.length gc]) _ _ rfl ⟨w.heap.size,0,none⟩ rfl (run_loadG A0.out.cell A1.out.cell)) ?_;go_frame;refine list_ask (some 30) rfl rfl _ _ (exec_fn1 16 _ _ rfl rfl (Hpcl1 _ _)) ?_;refine ((All_any _ d ll w32 HR.out HBD.out).mono fun _ _ h=>AlPost.is h).mono ?_;rintro e1 w33 ⟨v1,c1,rfl,h1,hb⟩;refine ⟨_,rfl,?_⟩;go_frame;replace A0:=ι (A0.out.below hb);replace A1:=ι (A1.out.below hb)
   replace HR:=ι (HR.out.below hb);replace K:=ι (Rg.acc K.out hb);clear hb;have X1:=ι (AlW.mk h1);refine Rg.lm 28 (.tuple #[v1,.int .i64 c1]) ?_;go_frame;refine Rg.lr 31 (exec_extract (v:=v1) _ _ rfl rfl rfl) ?_;go_frame;refine Rg.lr 32 (exec_extract (v:=.int .i64 c1) _ _ rfl rfl rfl) ?_;go_frame;refine Rg.la 3 (v1) ?_;go_frame;refine Rg.la 4 (.int .i64 c1) ?_;go_frame;go_upto_region 4 with (fail);refine wp_region_list ?_;refine Rg.lr 34 (Rg.exec_load (v:=.agg #[.int .i64 d,.slice ga ll.length gc]) _ _ rfl ⟨w.heap.size,0,none⟩ rfl (run_loadG A0.out.cell A1.out.cell)) ?_;go_frame;refine list_ask (some 35) rfl rfl _ _ (exec_fn1 17 _ _ rfl rfl (Jfcl6 _ _)) ?_;refine ((refAll_any _ d ll w33 HR.out HBD.out).mono fun _ _ h=>AlPost.is h).mono ?_;rintro e1 w34 ⟨v2,c2,rfl,h2,hb⟩;refine ⟨_,rfl,?_⟩;go_frame;replace A0:=ι (A0.out.below hb);replace A1:=ι (A1.out.below hb);replace HR:=ι (HR.out.below hb)
   replace X1:=ι (X1.out.below hb);replace K:=ι (Rg.acc K.out hb);clear hb;have X2:=ι (AlW.mk h2);refine Rg.lm 33 (.tuple #[v2,.int .i64 c2]) ?_;go_frame;refine Rg.lr 36 (exec_extract (v:=v2) _ _ rfl rfl rfl) ?_;go_frame;refine Rg.lr 37 (exec_extract (v:=.int .i64 c2) _ _ rfl rfl rfl) ?_;go_frame;refine Rg.la 5 (v2) ?_;go_frame;refine Rg.la 6 (.int .i64 c2) ?_;go_frame;clear h1 h2;obtain ⟨hc,l,hl1,hl2⟩:=X1.out.is.both X2.out.is;subst hc;have R1:=ι (RwL.mk hl1);have R2:=ι (RwL.mk hl2);clear hl1 hl2 X1 X2;go_upto_region 5 with (fail);refine wp_region_list ?_;refine Rg.lr 39 (Rg.exec_load (v:=.agg #[.int .i64 d,.slice ga ll.length gc]) _ _ rfl ⟨w.heap.size,0,none⟩ rfl (run_loadG A0.out.cell A1.out.cell)) ?_;go_frame;refine list_ask (some 40) rfl rfl _ _ (exec_fn1 18 _ _ rfl rfl (Hpcl3 _ _)) ?_;refine ((Primitive_any _ d ll w34 HR.out).mono fun _ _ h=>PrPost.is h).mono ?_
   rintro e1 w35 ⟨b1,c3,rfl,h1,hb⟩;have P1:=ι h1;clear h1;refine ⟨_,rfl,?_⟩;go_frame;replace A0:=ι (A0.out.below hb);replace A1:=ι (A1.out.below hb);replace HR:=ι (HR.out.below hb);replace R1:=ι (R1.out.below hb);replace R2:=ι (R2.out.below hb);replace K:=ι (Rg.acc K.out hb);clear hb;refine Rg.lm 38 (.tuple #[.bool b1,.int .i64 c3]) ?_;go_frame;refine Rg.lr 41 (exec_extract (v:=.bool b1) _ _ rfl rfl rfl) ?_;go_frame;refine Rg.lr 42 (exec_extract (v:=.int .i64 c3) _ _ rfl rfl rfl) ?_;go_frame;refine Rg.la 7 (.bool b1) ?_;go_frame;refine Rg.la 8 (.int .i64 c3) ?_;go_frame;go_upto_region 6 with (fail);refine wp_region_list ?_;refine Rg.lr 44 (Rg.exec_load (v:=.agg #[.int .i64 d,.slice ga ll.length gc]) _ _ rfl ⟨w.heap.size,0,none⟩ rfl (run_loadG A0.out.cell A1.out.cell)) ?_;go_frame;refine list_ask (some 45) rfl rfl _ _ (exec_fn1 19 _ _ rfl rfl (Jfcl8 _ _)) ?_;refine ((refPrimitive_any _ d ll w35 HR.out).mono fun _ _ h=>PrPost.is h).mono ?_
   rintro e1 w36 ⟨b2,c4,rfl,h2,hb⟩;have P2:=ι h2;clear h2;refine ⟨_,rfl,?_⟩;go_frame;replace A0:=ι (A0.out.below hb);replace A1:=ι (A1.out.below hb);replace HR:=ι (HR.out.below hb);replace R1:=ι (R1.out.below hb);replace R2:=ι (R2.out.below hb);replace K:=ι (Rg.acc K.out hb);clear hb;refine Rg.lm 43 (.tuple #[.bool b2,.int .i64 c4]) ?_;go_frame;refine Rg.lr 46 (exec_extract (v:=.bool b2) _ _ rfl rfl rfl) ?_;go_frame;refine Rg.lr 47 (exec_extract (v:=.int .i64 c4) _ _ rfl rfl rfl) ?_;go_frame;refine Rg.la 9 (.bool b2) ?_;go_frame;refine Rg.la 10 (.int .i64 c4) ?_;go_frame;obtain ⟨hb1,hc1⟩:=P1.out.both P2.out;subst hb1 hc1;clear P1 P2;go_upto_region 7 with (fail);refine wp_region_list ?_;refine Rg.lr 49 (Rg.exec_load (v:=.agg #[.int .i64 d,.slice ga ll.length gc]) _ _ rfl ⟨w.heap.size,0,none⟩ rfl (run_loadG A0.out.cell A1.out.cell)) ?_;go_frame;refine list_ask (some 50) rfl rfl _ _ (exec_fn1 20 _ _ rfl rfl (Jfcl9 _ _)) ?_
   refine ((Transitivity_any _ d ll w36 HR.out).mono fun _ _ h=>TvPost.is h).mono ?_;rintro e1 w37 ⟨k1,c5,rfl,h1,hb⟩;have P1:=ι h1;clear h1;refine ⟨_,rfl,?_⟩;go_frame;replace A0:=ι (A0.out.below hb);replace A1:=ι (A1.out.below hb);replace HR:=ι (HR.out.below hb);replace R1:=ι (R1.out.below hb);replace R2:=ι (R2.out.below hb);replace K:=ι (Rg.acc K.out hb);clear hb;refine Rg.lm 48 (.tuple #[.int .i64 k1,.int .i64 c5]) ?_;go_frame;refine Rg.lr 51 (exec_extract (v:=.int .i64 k1) _ _ rfl rfl rfl) ?_;go_frame;refine Rg.lr 52 (exec_extract (v:=.int .i64 c5) _ _ rfl rfl rfl) ?_;go_frame;refine Rg.la 11 (.int .i64 k1) ?_;go_frame;refine Rg.la 12 (.int .i64 c5) ?_;go_frame;go_upto_region 8 with (fail);refine wp_region_list ?_;refine Rg.lr 54 (Rg.exec_load (v:=.agg #[.int .i64 d,.slice ga ll.length gc]) _ _ rfl ⟨w.heap.size,0,none⟩ rfl (run_loadG A0.out.cell A1.out.cell)) ?_;go_frame
   refine list_ask (some 55) rfl rfl _ _ (exec_fn1 21 _ _ rfl rfl (Jfcl10 _ _)) ?_;refine ((refTransitivity_any _ d ll w37 HR.out).mono fun _ _ h=>TvPost.is h).mono ?_;rintro e1 w38 ⟨k2,c6,rfl,h2,hb⟩;have P2:=ι h2;clear h2;refine ⟨_,rfl,?_⟩;go_frame;replace A0:=ι (A0.out.below hb);replace A1:=ι (A1.out.below hb);replace HR:=ι (HR.out.below hb);replace R1:=ι (R1.out.below hb);replace R2:=ι (R2.out.below hb);replace K:=ι (Rg.acc K.out hb);clear hb;refine Rg.lm 53 (.tuple #[.int .i64 k2,.int .i64 c6]) ?_;go_frame;refine Rg.lr 56 (exec_extract (v:=.int .i64 k2) _ _ rfl rfl rfl) ?_;go_frame;refine Rg.lr 57 (exec_extract (v:=.int .i64 c6) _ _ rfl rfl rfl) ?_;go_frame;refine Rg.la 13 (.int .i64 k2) ?_;go_frame;refine Rg.la 14 (.int .i64 c6) ?_;go_frame;obtain ⟨hb1,hc1⟩:=P1.out.both P2.out;subst hb1 hc1;clear P1 P2;go_upto_region 9 with (fail);refine wp_region_list ?_
   refine Rg.lm 58 (v1) ?_;go_frame;refine Rg.lm 59 (v2) ?_;go_frame;refine list_ask (some 60) rfl rfl _ _ (exec_fn 22 _ _ _ rfl rfl rfl (Hpcl6 _ _)) ?_;refine (SameLists_b R1.out.r R2.out.r (ι (decide_eq_true rfl))).mono ?_;rintro e1 w39 ⟨rfl,hb⟩;refine ⟨_,rfl,?_⟩;go_frame;replace A0:=ι (A0.out.below hb);replace A1:=ι (A1.out.below hb);replace HR:=ι (HR.out.below hb);replace R1:=ι (R1.out.below hb);replace R2:=ι (R2.out.below hb);replace K:=ι (Rg.acc K.out hb);clear hb;refine Rg.lm 61 (.bool true) ?_;go_frame;refine listW_run (some 62) rfl rfl (Rg.xm (.int .i64 c2) _ rfl rfl) ?_;go_frame;refine listW_run (some 63) rfl rfl (Rg.xm (.int .i64 c2) _ rfl rfl) ?_;go_frame;refine listW_run (some 64) rfl rfl (exec_eqI _ _ rfl rfl rfl rfl) ?_;go_frame;refine Rg.lr 65 (exec_pickT (v:=.bool true) _ _ _ rfl rfl rfl) ?_;go_frame;refine Rg.lm 66 (.bool true) ?_;go_frame;refine listW_run (some 67) rfl rfl (Rg.xm (.bool b2) _ rfl rfl) ?_;go_frame
   refine listW_run (some 68) rfl rfl (Rg.xm (.bool b2) _ rfl rfl) ?_;go_frame;refine listW_run (some 69) rfl rfl (exec_eqB _ _ rfl rfl rfl) ?_;go_frame;refine Rg.lr 70 (exec_pickT (v:=.bool true) _ _ _ rfl rfl rfl) ?_;go_frame;refine Rg.lm 71 (.bool true) ?_;go_frame;refine listW_run (some 72) rfl rfl (Rg.xm (.int .i64 c4) _ rfl rfl) ?_;go_frame;refine listW_run (some 73) rfl rfl (Rg.xm (.int .i64 c4) _ rfl rfl) ?_;go_frame;refine listW_run (some 74) rfl rfl (exec_eqI _ _ rfl rfl rfl rfl) ?_;go_frame;refine Rg.lr 75 (exec_pickT (v:=.bool true) _ _ _ rfl rfl rfl) ?_;go_frame;refine Rg.lm 76 (.bool true) ?_;go_frame;refine listW_run (some 77) rfl rfl (Rg.xm (.int .i64 k2) _ rfl rfl) ?_;go_frame;refine listW_run (some 78) rfl rfl (Rg.xm (.int .i64 k2) _ rfl rfl) ?_;go_frame;refine listW_run (some 79) rfl rfl (exec_bin (R:=.bool true) .eql _ _ _ rfl rfl rfl (b_eql _ (decide_eq_true rfl))) ?_;go_frame
   refine Rg.lr 80 (exec_pickT (v:=.bool true) _ _ _ rfl rfl rfl) ?_;go_frame;refine Rg.lm 81 (.bool true) ?_;go_frame;refine listW_run (some 82) rfl rfl (Rg.xm (.int .i64 c6) _ rfl rfl) ?_;go_frame;refine listW_run (some 83) rfl rfl (Rg.xm (.int .i64 c6) _ rfl rfl) ?_;go_frame;refine listW_run (some 84) rfl rfl (exec_eqI _ _ rfl rfl rfl rfl) ?_;go_frame;refine Rg.lr 85 (exec_pickT (v:=.bool true) _ _ _ rfl rfl rfl) ?_;go_frame;refine Rg.lm 86 (.bool true) ?_;go_frame;refine listW_ask (some 87) rfl rfl _ _ (exec_fn0 15 _ rfl (Jfcl4 _ _)) ?_;refine (awake12_any w39).mono ?_;rintro e1 w40 ⟨rfl,hb⟩;refine ⟨_,rfl,?_⟩;go_frame;replace A0:=ι (A0.out.below hb);replace A1:=ι (A1.out.below hb);replace HR:=ι (HR.out.below hb);replace R1:=ι (R1.out.below hb);replace R2:=ι (R2.out.below hb);replace K:=ι (Rg.acc K.out hb);clear hb;refine Rg.lr 88 (exec_pickT (v:=.bool true) _ _ _ rfl rfl rfl) ?_;go_frame
   refine Rg.la 2 (.bool true) ?_;go_frame;go_wp2;go_ret;exact ⟨rfl,K.out⟩
end Go.Proofs.YthehbckogieimaaGreat

set_option linter.unusedVariables false
namespace Go.Proofs.YthehbckogieimaaGreat
open Go.RowKit
open Go.Proofs
open Go.ChangeShapes Go.WideShapes Go.Deep Go.Joins
attribute [local irreducible] Go.Calls
section
variable {H:Type} {enc:TypeId × Value→H}
theorem readG {W:World} {base:Nat} {r:Reach} {v:Value} {d:DataW H} {p:List MemPlace} (hv:Value.okWide Tryz.prog W r base 24 v) (h:DataW.Trod enc Tryz.prog W 0 (fun _=>true) true 24 v d p) :
  ∃ (dd:Int) (gv:Value) (ll:List (List Int)),v=.agg #[.int .i64 dd,gv]∧Rg.RowsB maxLen W gv ll:=by
 obtain ⟨c0,c1,y0,y1,m,rfl,rfl,rfl,hy0,hy1⟩:=open_agg2 Tryz.underlying24 (by kernel_rfl) cells24 hv h;obtain ⟨a,e0,_,_⟩:=DataW.trod_int Tryz.underlying3 hy0;simp at e0;subst e0
 rcases open_int_rows Tryz.underlying22 Tryz.underlying51 Tryz.underlying3 cells39 cells3 hy1 with ⟨hcs,_⟩ | ⟨a1,len,cap,A,L,C,Z,hcs,_,hl,hm,_,hrow⟩
 ·obtain rfl:c1=.slice none 0 0:=by simpa using hcs
  exact ⟨a,_,[],rfl,[],⟨none,0,rfl,by simp,Nat.zero_le _,by simp,fun h=>by simp at h⟩,rfl,fun i h=>by simp at h⟩
 ·obtain rfl:c1=.slice (some a1) len cap:=by simpa using hcs
  refine ⟨a,_,(List.range len).map fun r=>(Z r).take (L r),rfl,(List.range len).map fun r=>.slice (A r) (L r) (C r),⟨some a1,cap,by simp,by simp; exact hl,hm,by simp; omega,fun h0=>?_⟩,by simp,fun i h1 h2=>?_⟩
  ·simp only [List.length_map,List.length_range] at h0
   obtain ⟨hc0,_⟩:=hrow 0 (by omega)
   have ha:a1=⟨a1.block,a1.off,none⟩:=by
    have:=spot_none (a:=a1) (by simpa [Addr.add] using hc0)
    cases a1; simp at this; subst this; rfl
   refine ⟨a1.block,a1.off,by rw [← ha],lt_of_cell (a:=a1) (by simpa [Addr.add] using hc0),fun i hi=>?_⟩;simp only [List.length_map,List.length_range] at hi;rw [← add_none ha i,(hrow i (by omega)).1];simp
  ·simp only [List.length_map,List.length_range] at h1
   simp only [List.getElem_map,List.getElem_range];obtain ⟨_,hLC,hCm,hZ,_,hn,hcell⟩:=hrow i (by omega)
   have hlen:((Z i).take (L i)).length=L i:=by rw [List.length_take]; omega
   refine ⟨A i,C i,by rw [List.length_map,hlen],by rw [List.length_map,hlen]; exact hLC,hCm,by rw [List.length_map,hlen]; omega,fun h0=>?_⟩;rw [List.length_map,hlen] at h0
   cases hA:A i with
   | none=>have:=hn hA; omega
   | some a' =>
    obtain ⟨_,hcl⟩:=hcell a' hA;have hc0:=hcl 0 (by omega)
    have ha:a'=⟨a'.block,a'.off,none⟩:=by
     have:=spot_none (a:=a') (by simpa [Addr.add] using hc0)
     cases a'; simp at this; subst this; rfl
    refine ⟨a'.block,a'.off,by rw [← ha],lt_of_cell (a:=a') (by simpa [Addr.add] using hc0),fun c hc=>?_⟩;rw [List.length_map,hlen] at hc;rw [← add_none ha c,hcl c (by omega)];simp [List.getD,List.getElem?_eq_getElem (show c<(Z i).length by omega)]
end
end Go.Proofs.YthehbckogieimaaGreat
