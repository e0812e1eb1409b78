/- Lemmas and contracts on the way to the statement; no condition of their own beyond those written. -/
import Derived.Test.YthehbckogieimaaGreatXHjtoHp
import Derived.Deep.MidRow
import Derived.Deep.WholeRow
import Derived.Laws.CopyOwn
import Derived.RangeFuncWrites
import Derived.RangeFuncNested
import Derived.RangeFuncBox
import Derived.RangeFuncLeaves
import Derived.Shelf.Abstract
import Derived.OwnWalkIn
import Derived.TacticsInMore
import Derived.LoopNIn
import Derived.LoopIn
import Derived.Maps.AppendAt
import Derived.Sort.CutIn
import Derived.Deep.CutRange
import Derived.Deep.CutBlock
import Derived.IntWalk
import Derived.Great.BuildSlice
import Derived.ArgAppend
import Derived.StillTailTactics
import Derived.WalkSpells
import Derived.WalkLawsBesides
import Derived.OwnWalk
import Derived.OrdersHeld
import Derived.Deep.OwnRows
import Derived.WalkKit
import Derived.Lib.Hide
import Derived.Laws.OwnMore
import Derived.Test.YthehbckogieimaaGreatProg
import Derived.Outline
import Derived.Deep.DeepFit
import Derived.BigQuiet
import Derived.Deep.QuietTactic
import Derived.Sort.OwnSortedInts
import Derived.WideMake
import Derived.MapKept
import Derived.ChangeMaps5
import Derived.Shelf.Sort.Plain
import Derived.Lib.ConvBytes
import Derived.ChangeKeysEq
import Derived.Laws.Cells
import Derived.Laws.Rows
import Derived.Laws.Tables
import Derived.OrdersIn
import Derived.TacticsIn
import Derived.Deep.LoopGhost
import Derived.Lib.SlicesSearch
import Derived.Stop.BytesEq
import Derived.Shelf.SlSortCmp.Whole1
import Derived.Ground.SlsfProg
set_option linter.unusedVariables false
set_option linter.unusedSimpArgs false
set_option maxRecDepth 100000
set_option maxHeartbeats 8000000
namespace Go.Proofs.YthehbckogieimaaGreat
open Go.RowKit
open Go.Proofs
open Go.Proofs.Ob
open Go.Proofs.Cm (Gd)
attribute [local irreducible] Go.Calls Go.wpList
theorem Hrcl5 (args:Array Value) (w:World):(callFunc 103 args).run Tryz.prog w=.ok (.enter 103 args) w:=by kernel_rfl
theorem Hrcl6 (args:Array Value) (w:World):(callFunc 104 args).run Tryz.prog w=.ok (.enter 104 args) w:=by kernel_rfl
theorem bright_any (gv:Value) (d:Int) (ll:List (List Int)) (lv:Value) (l:List Int) (w:World) (h:Rg.Rows w gv ll) (hl:Rg.Ints w lv l) (hll:l.length≤100) :
  Calls Tryz.prog 103 #[.agg #[.int .i64 d,gv],lv] w fun e w'=>e=.returned (.int .i64 (paC d ll l))∧Below w.heap.size w w':=by
 obtain ⟨la,lc,rfl,-⟩:=hl.shape;have HL:=ι (NpI.mk hl);clear hl;obtain ⟨ga,gc,rfl,hga,hba⟩:=GI.enter (d) h;have K:=ι hba;have G0:=ι hga;clear h hga hba;replace HL:=ι (HL.out.below K.out);obtain ⟨gb,hgb⟩:∃ gb,w.heap.size=gb:=⟨_,rfl⟩
 go_enter Tryz.func103,Tryz.ntmps103
 go_upto_region 0 with (fail);refine wp_region_list ?_;refine Rg.lr 2 (Rg.exec_box _ _ rfl rfl) ?_;go_frame;refine Rg.la 4 (.int .i64 0) ?_;go_frame;rw [hgb] at G0 ⊢;have HGB:=ι hgb;clear hgb;generalize w.alloc (.cells #[.int .i64 d,.slice ga ll.length gc] 24)=w0 at *;obtain ⟨ck,hck⟩:∃ c,Hid (Ma.gchk d ll=c):=⟨_,ι rfl⟩;go_upto_region 1 with (fail);refine wp_region_list ?_;refine Rg.lr 9 (Rg.exec_load (v:=.agg #[.int .i64 d,.slice ga ll.length gc]) _ _ rfl ⟨gb,0,none⟩ rfl (run_loadG G0.out.c0 G0.out.c1)) ?_;go_frame;refine list_ask (some 10) rfl rfl _ _ (exec_fn1 85 _ _ rfl rfl (vacl0 _ _)) ?_;refine (orbitCheck_any _ d ll w0 G0.out.rows).mono ?_;rintro e1 w1 ⟨rfl,hb⟩;rw [hck.out];refine ⟨_,rfl,?_⟩;go_frame;replace G0:=ι (G0.out.below hb);replace HL:=ι (HL.out.below hb);replace K:=ι (Rg.acc K.out hb);clear hb;refine Rg.la 5 (.int .i64 ck) ?_;go_frame
 by_cases h0:ck=0
 case neg =>
  skip
  go_upto_region 2 with (fail);refine wp_region_list ?_;refine Rg.lm 11 (.int .i64 ck) ?_;go_frame;refine Rg.lr 12 (exec_bin (R:=.bool true) .neq _ _ _ rfl rfl rfl (b_neqB _ (decide_eq_true h0))) ?_;go_frame;go_upto_region 3 with (fail);refine wp_region_list ?_;refine Rg.lm 13 (.int .i64 ck) ?_;go_frame;refine Rg.la 4 (.int .i64 ck) ?_;go_frame;go_wp2;go_ret;exact ⟨by rw [paC_g hck.out h0]; rfl,K.out⟩
 case pos =>
  have HZ:=ι (hck.out.trans h0);go_upto_region 2 with (fail);refine wp_region_list ?_;refine Rg.lm 11 (.int .i64 ck) ?_;go_frame;refine Rg.lr 12 (exec_bin (R:=.bool false) .neq _ _ _ rfl rfl rfl (b_neqB _ (decide_eq_false (fun e=>e h0)))) ?_;go_frame;clear h0
  have hd64:1≤d∧d≤64:=by
   obtain ⟨D',_,e,_,_,h1,h2,_⟩:=gchk_ok HZ.out;omega
  by_cases hld:(l.length:Int)=d
  case neg =>
   skip
   go_upto_region 4 with (fail);refine wp_region_list ?_;refine Rg.lm 14 (.slice la l.length lc) ?_;go_frame;refine Rg.lr 15 (exec_len _ _ _ rfl Tryz.underlying36 _ _ _ rfl) ?_;go_frame;refine Rg.lr 16 (exec_fieldG0 _ rfl rfl) ?_;go_frame;refine Rg.lr 17 (Rg.exec_load (v:=.int .i64 d) _ _ rfl ⟨gb,0,none⟩ rfl (run_loadInt G0.out.c0)) ?_;go_frame;refine Rg.lr 18 (exec_bin (R:=.bool true) .neq _ _ _ rfl rfl rfl (b_neqB _ (decide_eq_true hld))) ?_;go_frame;go_upto_region 5 with (fail);refine wp_region_list ?_;refine Rg.la 4 (.int .i64 ((3:Nat):Int)) ?_;go_frame;go_wp2;go_ret;exact ⟨by rw [paC_f HZ.out (fun h=>hld h.1)]; rfl,K.out⟩
  case pos =>
   skip
   go_upto_region 4 with (fail);refine wp_region_list ?_;refine Rg.lm 14 (.slice la l.length lc) ?_;go_frame;refine Rg.lr 15 (exec_len _ _ _ rfl Tryz.underlying36 _ _ _ rfl) ?_;go_frame;refine Rg.lr 16 (exec_fieldG0 _ rfl rfl) ?_;go_frame;refine Rg.lr 17 (Rg.exec_load (v:=.int .i64 d) _ _ rfl ⟨gb,0,none⟩ rfl (run_loadInt G0.out.c0)) ?_;go_frame;refine Rg.lr 18 (exec_bin (R:=.bool false) .neq _ _ _ rfl rfl rfl (b_neqB _ (decide_eq_false (fun e=>e hld)))) ?_;go_frame;go_upto_region 6 with (fail);refine wp_region_list ?_;refine Rg.la 6 (.int .i64 ((0:Nat):Int)) ?_;go_frame;go_upto_region 7 with (fail);refine wp_region_list ?_;refine Rg.lm 19 (.slice la l.length lc) ?_;go_frame;refine Rg.lr 20 (exec_len _ _ _ rfl Tryz.underlying36 _ _ _ rfl) ?_;go_frame;refine Rg.lm 21 (.int .i64 ((0:Nat):Int)) ?_;go_frame;have HWB:=ι K.out;have KK:=ι (Below.refl w1.heap.size w1);have HLB:=ι HL.out
   have RT:=ι (Bk.RtI.start l);clear G0 K HL;go_wp2
   go_loopw [6,21] (fun mv iv wr=>∃ m i:Nat,mv=.int .i64 ((m:Nat):Int)∧iv=.int .i64 ((i:Nat):Int)∧i≤l.length∧m≤i∧Hid (Bk.RtI l i m)∧Hid (Below w1.heap.size w1 wr)) (fun _ iv _=>l.length - (intOf iv).toNat)
   case atStart=>exact ⟨0,0,rfl,rfl,Nat.zero_le _,Nat.le_refl _,RT,KK⟩
   case round =>
    clear RT KK;obtain ⟨m,i,rfl,rfl,hi,hmi,RT,KK⟩:=hrel;generalize wr=wd at *
    by_cases hil:i<l.length
    case neg =>
     have hli:l.length=i:=by omega
     go_upto_region 8 with (fail);refine wp_region_list ?_;refine Rg.lr 22 (exec_bin (R:=.bool false) .lss _ _ _ rfl rfl rfl (b_lss _ (decide_eq_false (by omega)))) ?_;go_frame;go_upto_region 15 with (fail);refine wp_region_list ?_;refine Rg.la 4 (.int .i64 ((0:Nat):Int)) ?_;go_frame;go_wp2;go_ret;exact ⟨by rw [paC_z HZ.out ⟨hld,RT.out.done (by omega)⟩]; rfl,Rg.acc HWB.out KK.out⟩
    case pos =>
     obtain ⟨lb,lo,rfl,hlb,hlc⟩:=ints_get HLB.out.i (k:=i) hil;obtain ⟨x,hx⟩:∃ x,Hid (l[i]'hil=x):=⟨_,ι rfl⟩;rw [hx.out] at hlc;have CT:=ι (CL.up (CL.mk hlc hlb) KK.out);have HIL:=ι hil;clear hlb hlc;go_upto_region 8 with (fail);refine wp_region_list ?_;refine Rg.lr 22 (exec_bin (R:=.bool true) .lss _ _ _ rfl rfl rfl (b_lss _ (decide_eq_true (by omega)))) ?_;go_frame;go_upto_region 9 with (fail);refine wp_region_list ?_;refine Rg.lr 23 (exec_indexS slInts _ _ rfl lb (lo) (l.length) lc (i) rfl rfl hil) ?_;go_frame;refine Rg.lr 24 (Rg.exec_load (v:=.int .i64 x) _ _ rfl ⟨lb,lo+i,none⟩ rfl (run_loadInt CT.out.cell)) ?_;go_frame;refine Rg.la 8 (.int .i64 x) ?_;go_frame
     by_cases hx0:x<0
     case pos =>
      have HB:=ι (RT.out.bad hil (.inl (by rw [hx.out]; exact hx0)));go_upto_region 10 with (fail);refine wp_region_list ?_;refine Rg.lm 25 (.int .i64 x) ?_;go_frame;refine Rg.lr 26 (exec_bin (R:=.bool true) .lss _ _ _ rfl rfl rfl (b_lss _ (decide_eq_true hx0))) ?_;go_frame;refine Rg.lm 27 (.bool true) ?_;go_frame;refine listW_pass (some 28) (by kernel_rfl) rfl ?_;go_frame;refine listW_pass (some 29) (by kernel_rfl) rfl ?_;go_frame;refine listW_pass (some 30) (by kernel_rfl) rfl ?_;go_frame;refine Rg.lr 31 (exec_pickT (v:=.bool true) _ _ _ rfl rfl rfl) ?_;go_frame;go_upto_region 11 with (fail);refine wp_region_list ?_;refine Rg.la 4 (.int .i64 ((3:Nat):Int)) ?_;go_frame;go_wp2;go_ret;exact ⟨by rw [paC_f HZ.out (fun h=>HB.out h.2)]; rfl,Rg.acc HWB.out KK.out⟩
     by_cases hxm:(m:Int)<x
     case pos =>
      have HB:=ι (RT.out.bad hil (.inr (by rw [hx.out]; exact hxm)));go_upto_region 10 with (fail);refine wp_region_list ?_;refine Rg.lm 25 (.int .i64 x) ?_;go_frame;refine Rg.lr 26 (exec_bin (R:=.bool false) .lss _ _ _ rfl rfl rfl (b_lss _ (decide_eq_false hx0))) ?_;go_frame;refine Rg.lm 27 (.bool false) ?_;go_frame;refine listW_run (some 28) rfl rfl (Rg.xm (.int .i64 x) _ rfl rfl) ?_;go_frame;refine listW_run (some 29) rfl rfl (Rg.xm (.int .i64 ((m:Nat):Int)) _ rfl rfl) ?_;go_frame;refine listW_run (some 30) rfl rfl (exec_bin (R:=.bool true) .gtr _ _ _ rfl rfl rfl (b_gtr _ (decide_eq_true hxm))) ?_;go_frame;refine Rg.lr 31 (exec_pickF (v:=.bool true) _ _ _ rfl rfl rfl) ?_;go_frame;go_upto_region 11 with (fail);refine wp_region_list ?_;refine Rg.la 4 (.int .i64 ((3:Nat):Int)) ?_;go_frame;go_wp2;go_ret;exact ⟨by rw [paC_f HZ.out (fun h=>HB.out h.2)]; rfl,Rg.acc HWB.out KK.out⟩
     obtain ⟨q,hq⟩:∃ q:Nat,x=q:=⟨x.toNat,by omega⟩;subst hq
     have hqm:q≤m:=by omega
     go_upto_region 10 with (fail);refine wp_region_list ?_;refine Rg.lm 25 (.int .i64 ((q:Nat):Int)) ?_;go_frame;refine Rg.lr 26 (exec_bin (R:=.bool false) .lss _ _ _ rfl rfl rfl (b_lss _ (decide_eq_false (by omega)))) ?_;go_frame;refine Rg.lm 27 (.bool false) ?_;go_frame;refine listW_run (some 28) rfl rfl (Rg.xm (.int .i64 ((q:Nat):Int)) _ rfl rfl) ?_;go_frame;refine listW_run (some 29) rfl rfl (Rg.xm (.int .i64 ((m:Nat):Int)) _ rfl rfl) ?_;go_frame;refine listW_run (some 30) rfl rfl (exec_bin (R:=.bool false) .gtr _ _ _ rfl rfl rfl (b_gtr _ (decide_eq_false (by omega)))) ?_;go_frame;refine Rg.lr 31 (exec_pickF (v:=.bool false) _ _ _ rfl rfl rfl) ?_;go_frame;have RT2:=ι (RT.out.next hil hx.out hqm)
     by_cases hqe:q=m
     case pos =>
      skip
      go_upto_region 12 with (fail);refine wp_region_list ?_;refine Rg.lm 32 (.int .i64 ((q:Nat):Int)) ?_;go_frame;refine Rg.lm 33 (.int .i64 ((m:Nat):Int)) ?_;go_frame;refine Rg.lr 34 (exec_bin (R:=.bool true) .eql _ _ _ rfl rfl rfl (b_eql _ (decide_eq_true (by omega)))) ?_;go_frame;go_upto_region 13 with (fail);refine wp_region_list ?_;refine Rg.lm 35 (.int .i64 ((m:Nat):Int)) ?_;go_frame;refine Rg.lr 36 (exec_bin (R:=.int .i64 (((m+1):Nat):Int)) .add _ _ _ rfl rfl rfl (b_add _ (by omega) (by omega))) ?_;go_frame;refine Rg.la 6 (.int .i64 (((m+1):Nat):Int)) ?_;go_frame;go_upto_region 14 with (fail);refine wp_region_list ?_;refine Rg.lr 37 (exec_bin (R:=.int .i64 (((i+1):Nat):Int)) .add _ _ _ rfl rfl rfl (b_add _ (by omega) (by omega))) ?_;go_frame;refine Rg.lm 21 (.int .i64 (((i+1):Nat):Int)) ?_;go_frame;rw [if_pos hqe] at RT2;go_wp2
      go_roundw
      case rel=>exact ⟨m+1,i+1,by go_num,by go_num,HIL.out,by omega,RT2,KK⟩
      case measure=>simp [intOf]; have:=HIL.out; omega
     case neg =>
      skip
      go_upto_region 12 with (fail);refine wp_region_list ?_;refine Rg.lm 32 (.int .i64 ((q:Nat):Int)) ?_;go_frame;refine Rg.lm 33 (.int .i64 ((m:Nat):Int)) ?_;go_frame;refine Rg.lr 34 (exec_bin (R:=.bool false) .eql _ _ _ rfl rfl rfl (b_eql _ (decide_eq_false (by omega)))) ?_;go_frame;go_upto_region 14 with (fail);refine wp_region_list ?_;refine Rg.lr 37 (exec_bin (R:=.int .i64 (((i+1):Nat):Int)) .add _ _ _ rfl rfl rfl (b_add _ (by omega) (by omega))) ?_;go_frame;refine Rg.lm 21 (.int .i64 (((i+1):Nat):Int)) ?_;go_frame;rw [if_neg hqe] at RT2;go_wp2
      go_roundw
      case rel=>exact ⟨m,i+1,by go_num,by go_num,HIL.out,by omega,RT2,KK⟩
      case measure=>simp [intOf]; have:=HIL.out; omega
theorem syB_no {D:Nat} {gs:List (List Nat)} {L:List Nat} {s i:Nat} (hs:s<gs.length) (hi:i<D) (h:L.getD (img gs s i) 0≠L.getD (img gs s (L.idxOf (L.getD i 0))) 0):syB D gs L=false:=by
 rw [← Bool.not_eq_true];intro e;unfold syB at e;simp only [List.all_eq_true,List.mem_range,decide_eq_true_eq] at e;exact h (e s hs i hi)
def SyI (D:Nat) (gs:List (List Nat)) (L:List Nat) (s i:Nat):Prop:=(∀ s' i',s' < s→i' < D→L.getD (img gs s' i') 0=L.getD (img gs s' (L.idxOf (L.getD i' 0))) 0)∧∀ i',i' < i→L.getD (img gs s i') 0=L.getD (img gs s (L.idxOf (L.getD i' 0))) 0
theorem SyI.done {D:Nat} {gs:List (List Nat)} {L:List Nat} {s i:Nat} (h:SyI D gs L s i) (hs:gs.length≤s):syB D gs L=true:=by
 unfold syB;simp only [List.all_eq_true,List.mem_range,decide_eq_true_eq];exact fun s' hs' i' hi'=>h.1 s' i' (by omega) hi'
theorem SyI.row {D:Nat} {gs:List (List Nat)} {L:List Nat} {s i:Nat} (h:SyI D gs L s i) (hi:D≤i):SyI D gs L (s+1) 0 :=
 ⟨fun s' i' h1 h2=>by
  by_cases e:s'=s
  ·subst e; exact h.2 i' (by omega)
  ·exact h.1 s' i' (by omega) h2,fun _ h=>absurd h (Nat.not_lt_zero _)⟩
theorem SyI.next {D:Nat} {gs:List (List Nat)} {L:List Nat} {s i:Nat} (h:SyI D gs L s i) (he:L.getD (img gs s i) 0=L.getD (img gs s (L.idxOf (L.getD i 0))) 0):SyI D gs L s (i+1) :=
 ⟨h.1,fun i' h1=>by
  by_cases e:i'=i
  ·subst e; exact he
  ·exact h.2 i' (by omega)⟩
theorem system_any (D:Nat) (gv lv:Value) (gs:List (List Nat)) (l:List Nat) (w:World) (hD1:1≤D) (hD:D≤64) (hg:Rg.Rows w gv (gs.map Ma.ofN)) (hgg:GG D gs) (hgl:gs.length≤1000) (hl:Rg.NP w lv l) (hll:l.length=D) :
  Calls Tryz.prog 104 #[.agg #[.int .i64 ((D:Nat):Int),gv],lv] w fun e w'=>e=.returned (.bool (syB D gs l))∧Below w.heap.size w w':=by
 have HG:=ι hg;have HGG:=ι hgg;have HLL:=ι hll
 obtain ⟨lb,lo,lc,hlv,hlb,hlx⟩:∃ b o c,lv=.slice (some ⟨b,o,none⟩) D c∧b<w.heap.size∧∀ i (hi:i<D),w.cell? ⟨b,o+i,none⟩=some (.int .i64 ((l.getD i 0:Nat):Int)):=by
  obtain ⟨a,c,rfl,hc,hm,_,hcell⟩:=hl.shape;obtain ⟨b,o,rfl,hb,hr⟩:=hcell (by omega);refine ⟨b,o,c,by rw [hll],hb,fun i hi=>?_⟩;rw [getN_at (by omega)];exact hr i (by omega)
 subst hlv;have HLC:=ι (show ∀ i,i<D→CL w lb (lo+i) (.int .i64 ((l.getD i 0:Nat):Int)) from fun i hi=>⟨hlx i hi,hlb⟩);have HLV:=ι (NpW.mk hl);clear hl hlx hlb hll;obtain ⟨ga,gc,rfl,hga,hba⟩:=GI.enter ((D:Nat):Int) hg;have K:=ι hba;have G0:=ι hga;clear hg hga hba;obtain ⟨gb,hgb⟩:∃ gb,w.heap.size=gb:=⟨_,rfl⟩
 go_enter Tryz.func104,Tryz.ntmps104
 go_upto_region 0 with (fail);refine wp_region_list ?_;refine Rg.lr 2 (Rg.exec_box _ _ rfl rfl) ?_;go_frame;refine Rg.la 4 (.bool false) ?_;go_frame;rw [hgb] at G0 ⊢;clear hgb;generalize w.alloc (.cells #[.int .i64 ((D:Nat):Int),.slice ga (gs.map Ma.ofN).length gc] 24)=w0 at *;go_upto_region 1 with (fail);refine wp_region_list ?_;refine Rg.lr 9 (exec_fieldG _ rfl rfl) ?_;go_frame;refine Rg.lr 10 (Rg.exec_load (v:=.slice ga (gs.map Ma.ofN).length gc) _ _ rfl ⟨gb,1,none⟩ rfl (Rg.run_loadSl _ _ Tryz.underlying22 G0.out.c1)) ?_;go_frame;refine Rg.lr 11 (exec_len _ _ _ rfl Tryz.underlying22 _ _ _ rfl) ?_;go_frame;refine Rg.lm 12 (.int .i64 ((0:Nat):Int)) ?_;go_frame;have SY:=ι (show SyI D gs l 0 0 from ⟨fun _ _ h=>absurd h (Nat.not_lt_zero _),fun _ h=>absurd h (Nat.not_lt_zero _)⟩);have hlm:(gs.map Ma.ofN).length=gs.length:=List.length_map ..;rw [hlm];clear G0;go_wp2
 go_loopw [12] (fun sv wr=>∃ s:Nat,sv=.int .i64 ((s:Nat):Int)∧s≤gs.length∧Hid (SyI D gs l s 0)∧Hid (Below w.heap.size w wr)) (fun sv _=>gs.length - (intOf sv).toNat)
 case atStart=>exact ⟨0,rfl,Nat.zero_le _,SY,K⟩
 case round =>
  clear SY K;obtain ⟨s,rfl,hs,SY,K⟩:=hrel;generalize wr=wd at *
  by_cases hsg:s<gs.length
  case neg =>
   have hsg2:gs.length=s:=by omega
   go_upto_region 2 with (fail);refine wp_region_list ?_;refine Rg.lr 13 (exec_bin (R:=.bool false) .lss _ _ _ rfl rfl rfl (b_lss _ (decide_eq_false (by omega)))) ?_;go_frame;go_upto_region 11 with (fail);refine wp_region_list ?_;refine Rg.la 4 (.bool true) ?_;go_frame;go_wp2;go_ret;exact ⟨by rw [SY.out.done (by omega)]; rfl,K.out⟩
  case pos =>
   have HSG:=ι hsg
   obtain ⟨gg,go,gu,rfl,hgb2,hgc,hgu⟩:∃ b o u,ga=some ⟨b,o,none⟩∧b<w.heap.size∧w.cell? ⟨b,o+s,none⟩=some u∧Rg.NP w u gs[s]:=by
    obtain ⟨ga',gc',hsh,-,-,-,har⟩:=HG.out.shape;simp only [Value.slice.injEq,true_and] at hsh;obtain ⟨rfl,rfl⟩:=hsh;obtain ⟨b,o,e,hb,hx⟩:=har (by rw [List.length_map]; omega);obtain ⟨u,h1,h2⟩:=hx s (by rw [List.length_map]; exact hsg);exact ⟨b,o,u,e,hb,h1,by rw [List.getElem_map] at h2; exact h2⟩
   have CG:=ι (CL.up (CL.mk hgc hgb2) K.out)
   obtain ⟨sb,so,sc,hsv,hsb,hsx⟩:∃ b o c,gu=.slice (some ⟨b,o,none⟩) D c∧b<w.heap.size∧∀ i (hi:i<D),w.cell? ⟨b,o+i,none⟩=some (.int .i64 ((img gs s i:Nat):Int)):=by
    have hlen:(gs[s]).length=D:=(HGG.out _ (List.getElem_mem hsg)).2;obtain ⟨a,c,rfl,hc,hm,_,hcell⟩:=hgu.shape;obtain ⟨b,o,rfl,hb,hr⟩:=hcell (by omega);refine ⟨b,o,c,by rw [hlen],hb,fun i hi=>?_⟩
    have e:img gs s i=gs[s].getD i 0:=by
     unfold img;rw [List.getD_eq_getElem?_getD (l:=gs),List.getElem?_eq_getElem hsg,Option.getD_some];rfl
    rw [e,getN_at (by omega)];exact hr i (by omega)
   subst hsv;have HSC:=ι (show ∀ i,i<D→CL w sb (so+i) (.int .i64 ((img gs s i:Nat):Int)) from fun i hi=>⟨hsx i hi,hsb⟩);clear hgb2 hgc hgu hsb hsx;go_upto_region 2 with (fail);refine wp_region_list ?_;refine Rg.lr 13 (exec_bin (R:=.bool true) .lss _ _ _ rfl rfl rfl (b_lss _ (decide_eq_true (by omega)))) ?_;go_frame;go_upto_region 3 with (fail);refine wp_region_list ?_;refine Rg.lr 14 (exec_indexS slPerms _ _ rfl gg (go) (gs.length) gc (s) rfl rfl hsg) ?_;go_frame;refine Rg.lr 15 (Rg.exec_load (v:=.slice (some ⟨sb,so,none⟩) D sc) _ _ rfl ⟨gg,go+s,none⟩ rfl (Rg.run_loadSl _ _ Tryz.underlying51 CG.out.cell)) ?_;go_frame;refine Rg.la 6 (.slice (some ⟨sb,so,none⟩) D sc) ?_;go_frame;go_upto_region 4 with (fail);refine wp_region_list ?_;refine Rg.lm 16 (.slice (some ⟨lb,lo,none⟩) D lc) ?_;go_frame;refine Rg.lr 17 (exec_len _ _ _ rfl Tryz.underlying36 _ _ _ rfl) ?_;go_frame
   refine Rg.lm 18 (.int .i64 ((0:Nat):Int)) ?_;go_frame;clear CG;go_wp2
   go_loopw [18] (fun iv wr=>∃ i:Nat,iv=.int .i64 ((i:Nat):Int)∧i≤D∧Hid (SyI D gs l s i)∧Hid (Below w.heap.size w wr)) (fun iv _=>D - (intOf iv).toNat)
   case atStart=>exact ⟨0,rfl,Nat.zero_le _,SY,K⟩
   case round =>
    clear SY K;obtain ⟨i,rfl,hi,SY,K⟩:=hrel;generalize wr=we at *
    by_cases hiD:i<D
    case neg =>
     have hiD2:D=i:=by omega
     go_upto_region 5 with (fail);refine wp_region_list ?_;refine Rg.lr 19 (exec_bin (R:=.bool false) .lss _ _ _ rfl rfl rfl (b_lss _ (decide_eq_false (by omega)))) ?_;go_frame;go_upto_region 10 with (fail);refine wp_region_list ?_;refine Rg.lr 41 (exec_bin (R:=.int .i64 (((s+1):Nat):Int)) .add _ _ _ rfl rfl rfl (b_add _ (by omega) (by omega))) ?_;go_frame;refine Rg.lm 12 (.int .i64 (((s+1):Nat):Int)) ?_;go_frame;go_wp2
     go_roundw
     case rel=>exact ⟨s+1,by go_num,HSG.out,ι (SY.out.row (by omega)),K⟩
     case measure=>simp [intOf]; have:=HSG.out; omega
    case pos =>
     have HID:=ι hiD;obtain ⟨x,hx⟩:∃ x,Hid (l.getD i 0=x):=⟨_,ι rfl⟩;obtain ⟨q,hq⟩:∃ q,Hid (l.idxOf x=q):=⟨_,ι rfl⟩
     have hqD:q<D:=by
      rw [← hq.out,← hx.out];have:=Bk.idxOf_lt (L:=l) (i:=i) (by rw [HLL.out]; exact hiD);rw [HLL.out] at this;exact this
     obtain ⟨si,hsi⟩:∃ x,Hid (img gs s i=x):=⟨_,ι rfl⟩;obtain ⟨sq,hsq⟩:∃ x,Hid (img gs s q=x):=⟨_,ι rfl⟩
     have hsiD:si<D:=by rw [← hsi.out]; exact img_lt HGG.out s i hsg hiD
     have hsqD:sq<D:=by rw [← hsq.out]; exact img_lt HGG.out s q hsg hqD
     obtain ⟨u,hu⟩:∃ x,Hid (l.getD si 0=x):=⟨_,ι rfl⟩;obtain ⟨v,hv⟩:∃ x,Hid (l.getD sq 0=x):=⟨_,ι rfl⟩;have C1:=ι (show CL we lb (lo+i) (.int .i64 ((x:Nat):Int)) by rw [← hx.out]; exact (HLC.out i hiD).up K.out);have C2:=ι (show CL we sb (so+i) (.int .i64 ((si:Nat):Int)) by rw [← hsi.out]; exact (HSC.out i hiD).up K.out);have C3:=ι (show CL we lb (lo+si) (.int .i64 ((u:Nat):Int)) by rw [← hu.out]; exact (HLC.out si hsiD).up K.out);have C4:=ι (show CL we sb (so+q) (.int .i64 ((sq:Nat):Int)) by rw [← hsq.out]; exact (HSC.out q hqD).up K.out);have C5:=ι (show CL we lb (lo+sq) (.int .i64 ((v:Nat):Int)) by rw [← hv.out]; exact (HLC.out sq hsqD).up K.out);have HV2:=ι (HLV.out.below K.out);have HIX:=ι (fun (w2:World) (h2:NpW w2 (.slice (some ⟨lb,lo,none⟩) D lc) l)=>index_n (.slice (some ⟨lb,lo,none⟩) D lc) l i w2 h2.np (by rw [HLL.out]; omega) (by rw [HLL.out]; exact HID.out))
     rw [hx.out,hq.out] at HIX;obtain ⟨bq,hbq⟩:∃ b,Hid (decide (u=v)=b):=⟨_,ι rfl⟩
     have HBQ:=ι (show decide (¬ ((u:Nat):Int)=((v:Nat):Int))=(!bq) by
      rw [← hbq.out]
      by_cases e:u=v
      ·rw [decide_eq_true e,decide_eq_false (fun h=>h (by omega))]; rfl
      ·rw [decide_eq_false e,decide_eq_true (by omega)]; rfl)
     go_upto_region 5 with (fail);refine wp_region_list ?_;refine Rg.lr 19 (exec_bin (R:=.bool true) .lss _ _ _ rfl rfl rfl (b_lss _ (decide_eq_true (by omega)))) ?_;go_frame;go_upto_region 6 with (fail);refine wp_region_list ?_;refine Rg.lm 20 (.int .i64 ((i:Nat):Int)) ?_;go_frame;refine Rg.lr 21 (exec_indexS slInts _ _ rfl lb (lo) (D) lc (i) rfl rfl hiD) ?_;go_frame;refine Rg.lr 22 (Rg.exec_load (v:=.int .i64 ((x:Nat):Int)) _ _ rfl ⟨lb,lo+i,none⟩ rfl (run_loadInt C1.out.cell)) ?_;go_frame;refine Rg.la 7 (.int .i64 ((i:Nat):Int)) ?_;go_frame;refine Rg.la 8 (.int .i64 ((x:Nat):Int)) ?_;go_frame;go_upto_region 7 with (fail);have hV0:Below we.heap.size we we.drew:=(Below.refl _ _).drew;replace C1:=ι (C1.out.below hV0);replace C2:=ι (C2.out.below hV0);replace C3:=ι (C3.out.below hV0);replace C4:=ι (C4.out.below hV0);replace C5:=ι (C5.out.below hV0);replace HV2:=ι (HV2.out.below hV0)
     replace K:=ι (Rg.acc K.out hV0);clear hV0;refine Rg.Any.begin (S:=Rg.Both 16 (fun _=>True) (fun W=>Below we.drew.heap.size we.drew W)) mix ?_;generalize we.drew=w81 at *;have hS:∀ (l:Array Bool) W,Below w81.heap.size w81 W→Rg.Both 16 (fun _=>True) (fun W=>Below w81.heap.size w81 W) l W:=fun l W h=>⟨.inr trivial,h⟩;have hI:Below w81.heap.size w81 w81:=Below.refl _ _;refine Rg.tm 0 16 (.slice (some ⟨lb,lo,none⟩) D lc) 23 (hS _ _ hI) ?_;go_frame;refine Rg.tm 1 16 (.slice (some ⟨sb,so,none⟩) D sc) 24 (hS _ _ hI) ?_;go_frame;refine Rg.tm 2 16 (.int .i64 ((i:Nat):Int)) 25 (hS _ _ hI) ?_;go_frame;refine Rg.tg 3 16 (.pointer (some ⟨sb,so+i,none⟩)) 26 rfl rfl (Rg.yields_index slPerm _ _ rfl rfl sb (so) (D) sc (i) rfl rfl hiD) (hS _ _ hI) ?_;go_frame;refine Rg.tg 4 16 (.int .i64 ((si:Nat):Int)) 27 rfl rfl (Rg.yields_cell _ _ rfl rfl ⟨sb,so+i,none⟩ rfl (fun W hW=>run_loadInt ((Below.cell (p:=⟨sb,so+i,none⟩) hW C2.out.lt).trans C2.out.cell))) (hS _ _ hI) ?_;go_frame
     refine Rg.tg 5 16 (.pointer (some ⟨lb,lo+si,none⟩)) 28 rfl rfl (Rg.yields_index slInts _ _ rfl rfl lb (lo) (D) lc (si) rfl rfl hsiD) (hS _ _ hI) ?_;go_frame;refine Rg.tg 6 16 (.int .i64 ((u:Nat):Int)) 29 rfl rfl (Rg.yields_cell _ _ rfl rfl ⟨lb,lo+si,none⟩ rfl (fun W hW=>run_loadInt ((Below.cell (p:=⟨lb,lo+si,none⟩) hW C3.out.lt).trans C3.out.cell))) (hS _ _ hI) ?_;go_frame;refine Rg.tm 7 16 (.slice (some ⟨lb,lo,none⟩) D lc) 30 (hS _ _ hI) ?_;go_frame;refine Rg.tm 8 16 (.slice (some ⟨sb,so,none⟩) D sc) 31 (hS _ _ hI) ?_;go_frame;refine Rg.tm 9 16 (.slice (some ⟨lb,lo,none⟩) D lc) 32 (hS _ _ hI) ?_;go_frame;refine Rg.tm 10 16 (.int .i64 ((x:Nat):Int)) 33 (hS _ _ hI) ?_;go_frame;refine Rg.Any.one (i:=11) (by kernel_rfl) (Rg.Any.ask (some 34) rfl rfl rfl _ _ (exec_fn 171 _ _ _ rfl rfl rfl (Hjcl2 _ _)) ?_);refine (HIX.out w81 HV2.out).mono ?_;rintro e1 w82 ⟨rfl,hb⟩
     have hI2_0:=Rg.acc hI hb;clear hb hI;refine ⟨_,rfl,(hS _ _ hI2_0),?_⟩;go_frame;refine Rg.tg 12 16 (.pointer (some ⟨sb,so+q,none⟩)) 35 rfl rfl (Rg.yields_index slPerm _ _ rfl rfl sb (so) (D) sc (q) rfl rfl hqD) (hS _ _ hI2_0) ?_;go_frame;refine Rg.tg 13 16 (.int .i64 ((sq:Nat):Int)) 36 rfl rfl (Rg.yields_cell _ _ rfl rfl ⟨sb,so+q,none⟩ rfl (fun W hW=>run_loadInt ((Below.cell (p:=⟨sb,so+q,none⟩) hW C4.out.lt).trans C4.out.cell))) (hS _ _ hI2_0) ?_;go_frame;refine Rg.tg 14 16 (.pointer (some ⟨lb,lo+sq,none⟩)) 37 rfl rfl (Rg.yields_index slInts _ _ rfl rfl lb (lo) (D) lc (sq) rfl rfl hsqD) (hS _ _ hI2_0) ?_;go_frame;refine Rg.tg 15 16 (.int .i64 ((v:Nat):Int)) 38 rfl rfl (Rg.yields_cell _ _ rfl rfl ⟨lb,lo+sq,none⟩ rfl (fun W hW=>run_loadInt ((Below.cell (p:=⟨lb,lo+sq,none⟩) hW C5.out.lt).trans C5.out.cell))) (hS _ _ hI2_0) ?_;go_frame;refine Rg.Any.one (i:=16) (by kernel_rfl) (Rg.Any.run (some 39) rfl rfl rfl (exec_bin (R:=.bool (!bq)) .neq _ _ _ rfl rfl rfl (b_neqB _ HBQ.out)) (hS _ _ hI2_0) ?_)
     go_frame;refine Rg.Any.done (by kernel_rfl) ?_ _;replace C1:=ι (C1.out.below hI2_0);replace C2:=ι (C2.out.below hI2_0);replace C3:=ι (C3.out.below hI2_0);replace C4:=ι (C4.out.below hI2_0);replace C5:=ι (C5.out.below hI2_0);replace HV2:=ι (HV2.out.below hI2_0);replace K:=ι (Rg.acc K.out hI2_0);clear hS hI2_0;clear C1 C2 C3 C4 C5 HV2
     cases bq with
     | true =>
      have SY2:=ι (SY.out.next (by rw [hsi.out,hx.out,hq.out,hsq.out,hu.out,hv.out]; exact of_decide_eq_true hbq.out));go_upto_region 9 with (fail);refine wp_region_list ?_;refine Rg.lr 40 (exec_bin (R:=.int .i64 (((i+1):Nat):Int)) .add _ _ _ rfl rfl rfl (b_add _ (by omega) (by omega))) ?_;go_frame;refine Rg.lm 18 (.int .i64 (((i+1):Nat):Int)) ?_;go_frame;go_wp2
      go_roundw
      case rel=>exact ⟨i+1,by go_num,HID.out,SY2,K⟩
      case measure=>simp [intOf]; have:=HID.out; omega
     | false =>
      have HN:=ι (syB_no hsg hiD (show l.getD (img gs s i) 0≠l.getD (img gs s (l.idxOf (l.getD i 0))) 0 by rw [hsi.out,hx.out,hq.out,hsq.out,hu.out,hv.out]; exact of_decide_eq_false hbq.out));go_upto_region 8 with (fail);refine wp_region_list ?_;refine Rg.la 4 (.bool false) ?_;go_frame;go_wp2;go_ret;exact ⟨by rw [HN.out]; rfl,K.out⟩
theorem Is12_any (gv:Value) (d:Int) (ll:List (List Int)) (lv:Value) (l:List Int) (w:World) (h:Rg.Rows w gv ll) (hl:Rg.Ints w lv l) (hll:l.length≤100) :
  Calls Tryz.prog 29 #[.agg #[.int .i64 d,gv],lv] w fun e w'=>∃ b,e=.returned (.tuple #[.bool b,.int .i64 (paC d ll l)])∧b=(decide (paC d ll l=0) && isBl d ll l)∧Below w.heap.size w w':=by
 obtain ⟨la,lc,rfl,-⟩:=hl.shape;have HL:=ι (NpI.mk hl);clear hl;obtain ⟨ga,gc,rfl,hga,hba⟩:=GI.enter (d) h;have K:=ι hba;have G0:=ι hga;clear h hga hba;replace HL:=ι (HL.out.below K.out);obtain ⟨gb,hgb⟩:∃ gb,w.heap.size=gb:=⟨_,rfl⟩
 go_enter Tryz.func29,Tryz.ntmps29
 go_upto_region 0 with (fail);refine wp_region_list ?_;refine Rg.lr 2 (Rg.exec_box _ _ rfl rfl) ?_;go_frame;refine Rg.la 4 (.bool false) ?_;go_frame;refine Rg.la 5 (.int .i64 0) ?_;go_frame;rw [hgb] at G0 ⊢;have HGB:=ι hgb;clear hgb;generalize w.alloc (.cells #[.int .i64 d,.slice ga ll.length gc] 24)=w0 at *;obtain ⟨ck,hck⟩:∃ c,Hid (paC d ll l=c):=⟨_,ι rfl⟩;go_upto_region 1 with (fail);refine wp_region_list ?_;refine Rg.lr 7 (Rg.exec_load (v:=.agg #[.int .i64 d,.slice ga ll.length gc]) _ _ rfl ⟨gb,0,none⟩ rfl (run_loadG G0.out.c0 G0.out.c1)) ?_;go_frame;refine Rg.lm 8 (.slice la l.length lc) ?_;go_frame;refine list_ask (some 9) rfl rfl _ _ (exec_fn 103 _ _ _ rfl rfl rfl (Hrcl5 _ _)) ?_;refine (bright_any _ d ll _ l w0 G0.out.rows HL.out.i hll).mono ?_;rintro e1 w1 ⟨rfl,hb⟩;rw [hck.out];refine ⟨_,rfl,?_⟩;go_frame;replace G0:=ι (G0.out.below hb);replace HL:=ι (HL.out.below hb)
 replace K:=ι (Rg.acc K.out hb);clear hb;refine Rg.la 6 (.int .i64 ck) ?_;go_frame
 by_cases h0:ck=0
 case neg =>
  skip
  go_upto_region 2 with (fail);refine wp_region_list ?_;refine Rg.lm 10 (.int .i64 ck) ?_;go_frame;refine Rg.lr 11 (exec_bin (R:=.bool true) .neq _ _ _ rfl rfl rfl (b_neqB _ (decide_eq_true h0))) ?_;go_frame;go_upto_region 3 with (fail);refine wp_region_list ?_;refine Rg.lm 12 (.int .i64 ck) ?_;go_frame;refine Rg.la 4 (.bool false) ?_;go_frame;refine Rg.la 5 (.int .i64 ck) ?_;go_frame;go_wp2
  go_ret2
  exact ⟨false,by rw [hck.out]; rfl,by rw [hck.out,decide_eq_false h0]; rfl,K.out⟩
 case pos =>
  have HZ:=ι (hck.out.trans h0);go_upto_region 2 with (fail);refine wp_region_list ?_;refine Rg.lm 10 (.int .i64 ck) ?_;go_frame;refine Rg.lr 11 (exec_bin (R:=.bool false) .neq _ _ _ rfl rfl rfl (b_neqB _ (decide_eq_false (fun e=>e h0)))) ?_;go_frame;clear h0;obtain ⟨hz,D,gs,M,rfl,rfl,rfl,hgg,hD1,hD2,hgl,hML,hMr⟩:=paC_ok HZ.out;have HGG:=ι hgg;have HR:=ι (And.intro hML hMr);have HIB:=ι (isBl_eq D gs M);obtain ⟨sb,hsb⟩:∃ b,Hid (syB D gs M=b):=⟨_,ι rfl⟩;rw [hsb.out] at HIB;clear hz hgg hML hMr;go_upto_region 4 with (fail);refine wp_region_list ?_;refine Rg.lr 13 (Rg.exec_load (v:=.agg #[.int .i64 ((D:Nat):Int),.slice ga (gs.map Ma.ofN).length gc]) _ _ rfl ⟨gb,0,none⟩ rfl (run_loadG G0.out.c0 G0.out.c1)) ?_;go_frame;refine Rg.lm 14 (.slice la (Ma.ofN M).length lc) ?_;go_frame;refine list_ask (some 15) rfl rfl _ _ (exec_fn 104 _ _ _ rfl rfl rfl (Hrcl6 _ _)) ?_
  refine (system_any D _ _ gs M w1 hD1 hD2 G0.out.rows HGG.out (by omega) HL.out.i HR.out.1).mono ?_;rintro e1 w2 ⟨rfl,hb⟩;rw [hsb.out];refine ⟨_,rfl,?_⟩;go_frame;replace G0:=ι (G0.out.below hb);replace HL:=ι (HL.out.below hb);replace K:=ι (Rg.acc K.out hb);clear hb;refine Rg.la 4 (.bool sb) ?_;go_frame;refine Rg.la 5 (.int .i64 ((0:Nat):Int)) ?_;go_frame;go_wp2
  go_ret2
  exact ⟨sb,by rw [HZ.out]; rfl,by rw [HZ.out,HIB.out]; rfl,K.out⟩

structure ZD (w:World) (b d:Nat):Prop where
 lt:b<w.heap.size
 c0:w.cell? ⟨b,0,none⟩=some (.int .i64 ((d:Nat):Int))
 c1:w.cell? ⟨b,1,none⟩=some (.slice none 0 0)
 fr:∀ o,w.frozen? ⟨b,o,none⟩=false
theorem ZD.below {w w':World} {b d:Nat} (h:ZD w b d) (hb:Below w.heap.size w w'):ZD w' b d :=
 ⟨Nat.lt_of_lt_of_le h.lt hb.size,(hb.cell (p:=⟨b,0,none⟩) h.lt).trans h.c0,(hb.cell (p:=⟨b,1,none⟩) h.lt).trans h.c1,fun o=>(hb.frozen (p:=⟨b,o,none⟩) h.lt).trans (h.fr o)⟩
theorem ZD.up {w w':World} {b d:Nat} (h:ZD w b d) (hb:Below w.heap.size w w'):ZD w' b d:=h.below hb
theorem ZD.set {w:World} {b d:Nat} (h:ZD w b d) (e:Nat):ZD (w.setCell ⟨b,0,none⟩ (.int .i64 ((e:Nat):Int))) b e :=
 ⟨by simpa using h.lt,World.cell?_setCell_same (h:=h.c0) ..,by rw [World.cell?_setCell_other (h:=by intro e; injection e with e1 e2; omega) ..]; exact h.c1,fun o=>by rw [World.frozen?_setCell]; exact h.fr o⟩
theorem ZD.start {w W:World} {b d:Nat} (h:ZD W b d) (hb:Below w.heap.size w W) (hlo:w.heap.size≤b):AcM w W b d (fun _=>False) (.slice none 0 0) []:=AcM.start hb ⟨h.c0,h.lt⟩ h.c1 (h.fr 1) hlo
theorem zd_new (w:World) (d:Nat):∃ W,(storeVar 24 ⟨w.heap.size,0,none⟩ (.agg #[.int .i64 ((d:Nat):Int),.slice none 0 0])).run Tryz.prog (w.alloc (.cells #[.int .i64 0,.slice none 0 0] 24))=.ok () W∧ZD W w.heap.size d∧Below w.heap.size w W:=by
 have hz:=ZG.new w;obtain ⟨p0,p1,p2⟩:=group_set (.int .i64 ((d:Nat):Int)) (.slice none 0 0) hz.c0 hz.c1 ((Below.refl w.heap.size w).alloc (Nat.le_refl _) _) (Nat.le_refl _);exact ⟨_,run_storeG _ none 0 0 hz.c0 hz.c1 (hz.fr 0) (hz.fr 1),⟨by simp,p0,p1,fun o=>by rw [World.frozen?_setCell,World.frozen?_setCell]; exact hz.fr o⟩,p2⟩
theorem zg_store {w W:World} {b:Nat} (h:ZG W b) (hb:Below w.heap.size w W) (hlo:w.heap.size≤b) (d:Int) (a:Option Addr) (n c:Nat) :
  ∃ X,(storeVar 24 ⟨b,0,none⟩ (.agg #[.int .i64 d,.slice a n c])).run Tryz.prog W=.ok () X∧X.cell? ⟨b,0,none⟩=some (.int .i64 d)∧X.cell? ⟨b,1,none⟩=some (.slice a n c)∧Below w.heap.size w X∧Rg.Kp (fun z=>z=b) W X:=by
 obtain ⟨p0,p1,p2⟩:=group_set (.int .i64 d) (.slice a n c) h.c0 h.c1 hb hlo;have k1:Rg.Kp (fun z=>z=b) W (W.setCell ⟨b,0,none⟩ (.int .i64 d)):=Rg.Kp.of_setCell rfl;have k2:Rg.Kp (fun z=>z=b) (W.setCell ⟨b,0,none⟩ (.int .i64 d)) ((W.setCell ⟨b,0,none⟩ (.int .i64 d)).setCell ⟨b,1,none⟩ (.slice a n c)):=Rg.Kp.of_setCell rfl;exact ⟨_,run_storeG _ a n c h.c0 h.c1 (h.fr 0) (h.fr 1),p0,p1,p2,Rg.Kp.trans (M:=fun z=>z=b) k1 k2 (fun _ _ e=>e)⟩
def AcPost (d:Int) (ll:List (List Int)) (l:List Int) (w:World) (e:Ending) (w':World):Prop:=∃ v,e=.returned (.tuple #[v,.int .i64 (acC d ll l)])∧AcAns w' d ll l v∧Below w.heap.size w w'
theorem acC_g {d:Int} {ll:List (List Int)} {l:List Int} {c:Int} (h:paC d ll l=c) (hc:c≠0):acC d ll l=c:=by unfold acC; rw [if_neg (by rw [h]; exact hc)]; exact h
theorem acC_f {d:Int} {ll:List (List Int)} {l:List Int} (h:paC d ll l=0) (hc:isBl d ll l=false):acC d ll l=13:=by unfold acC; rw [if_pos h,if_neg (by rw [hc]; decide)]
theorem acC_z {d:Int} {ll:List (List Int)} {l:List Int} (h:paC d ll l=0) (hc:isBl d ll l=true):acC d ll l=0:=by unfold acC; rw [if_pos h,if_pos hc]
theorem GI.at {w:World} {D gb:Nat} {ga:Option Addr} {gc:Nat} {gs:List (List Nat)} (h:GI w gb ((D:Nat):Int) ga (gs.map Ma.ofN) gc) (hg:GG D gs) (hD:1≤D) {s:Nat} (hs:s<gs.length) :
  ∃ b o sb so sc,ga=some ⟨b,o,none⟩∧CL w b (o+s) (.slice (some ⟨sb,so,none⟩) D sc)∧∀ i,i<D→CL w sb (so+i) (.int .i64 ((img gs s i:Nat):Int)):=by
 obtain ⟨ga',gc',hsh,-,-,-,har⟩:=h.rows.shape;simp only [Value.slice.injEq,true_and] at hsh;obtain ⟨rfl,rfl⟩:=hsh;obtain ⟨b,o,e,hb,hx⟩:=har (by rw [List.length_map]; omega);obtain ⟨u,h1,h2⟩:=hx s (by rw [List.length_map]; exact hs);rw [List.getElem_map] at h2;have hlen:(gs[s]).length=D:=(hg _ (List.getElem_mem hs)).2;obtain ⟨a,c,rfl,hc,hm,_,hcell⟩:=Rg.NP.shape (show Rg.NP w u gs[s] from h2);obtain ⟨sb,so,rfl,hsb,hr⟩:=hcell (by omega);refine ⟨b,o,sb,so,c,e,⟨by rw [hlen] at h1; exact h1,hb⟩,fun i hi=>⟨?_,hsb⟩⟩
 have e:img gs s i=gs[s].getD i 0:=by
  unfold img;rw [List.getD_eq_getElem?_getD (l:=gs),List.getElem?_eq_getElem hs,Option.getD_some]
 rw [e,getN_at (by omega)];exact hr i (by omega)
theorem NpI.at {w:World} {lv:Value} {M:List Nat} {D:Nat} (h:NpI w lv (Ma.ofN M)) (hM:M.length=D) (hD:1≤D):∃ b o c,lv=.slice (some ⟨b,o,none⟩) D c∧∀ i,i<D→CL w b (o+i) (.int .i64 ((M.getD i 0:Nat):Int)):=by
 obtain ⟨a,c,rfl,hc,hm,_,hcell⟩:=Rg.NP.shape (show Rg.NP w lv M from h.i);obtain ⟨b,o,rfl,hb,hr⟩:=hcell (by omega);refine ⟨b,o,c,by rw [hM],fun i hi=>⟨?_,hb⟩⟩;rw [getN_at (by omega)];exact hr i (by omega)
theorem made_row (w:World) (n:Nat):RwAt (w.alloc (.cells (madeCells #[.int .i64 0] n) 3)) w.heap.size n (fun _=>0):=by
 have h:=World.rowIs_made w (.int .i64 0) n 3;exact ⟨by simp,fun i hi=>h.cell hi,fun i=>h.frozen i⟩
theorem img_gs {gs:List (List Nat)} {s:Nat} (hs:s<gs.length) (i:Nat):img gs s i=gs[s].getD i 0:=by
 unfold img;rw [List.getD_eq_getElem?_getD (l:=gs),List.getElem?_eq_getElem hs,Option.getD_some]
theorem put_val {D:Nat} {gs:List (List Nat)} {M:List Nat} (hl:M.length=D) (hr:Bk.rgc M 0) (hI:Bk.Inv D gs.length (img gs) M) {s i:Nat} (hs:s<gs.length) (hi:i<D):M.getD (img gs s i) 0=(Bk.acB M gs[s]).getD (M.getD i 0) 0:=by
 have hm:M.getD i 0<Bk.mny M 0:=(Bk.mem_mny hr _).1 (by rw [Bk.getD_lt (by omega)]; exact List.getElem_mem _);rw [Bk.acB_at hm,← img_gs hs];exact (Bk.inv_iff hl).1 hI s i hs hi
theorem fil_put {M g:List Nat} {z:Nat→Int} {i n v:Nat} (hi:i<M.length) (hn:M.getD i 0=n) (hv:v=(Bk.acB M g).getD n 0):(fun c=>if c=n then ((v:Nat):Int) else Bk.fil M g z i c)=Bk.fil M g z (i+1):=by
 funext c
 rw [Bk.fil_step hi,← getN_at hi,hn]
 by_cases e:c=n
 ·rw [if_pos e,if_pos e,hv,e]
 ·rw [if_neg e,if_neg e]
theorem row_done {w:World} {xb cap:Nat} {M g:List Nat} {z:Nat→Int} (h:RwAt w xb (Bk.mny M 0) (Bk.fil M g z M.length)) (hr:Bk.rgc M 0) (hc:Bk.mny M 0≤cap) (hm:cap≤maxLen) (hn:Bk.mny M 0≤1000):Rg.NP w (.slice (some ⟨xb,0,none⟩) (Bk.mny M 0) cap) (Bk.acB M g) :=
 h.np _ (Bk.acB_len M g) hc hm hn (fun i hi=>by
  rw [Bk.acB_len] at hi
  rw [Bk.fil_all hr hi,Bk.getD_lt (by rw [Bk.acB_len]; exact hi)])
theorem np_fp {F:Nat→Prop} {w W:World} {xb n c:Nat} {l:List Nat} (h:Rg.NP W (.slice (some ⟨xb,0,none⟩) n c) l) (h1:w.heap.size≤xb) (h2:xb<W.heap.size):FP (Fup F w W) W (.slice (some ⟨xb,0,none⟩) n c) l :=
 Rg.FVals.of h (fun k e=>by simp [Value.ownBlock] at e; exact .inr ⟨e▸h1,e▸h2⟩)
theorem Action12_any (gv:Value) (d:Int) (ll:List (List Int)) (lv:Value) (l:List Int) (w:World) (h:Rg.Rows w gv ll) (hl:Rg.Ints w lv l) (hll:l.length≤100) :
  Calls Tryz.prog 99 #[.agg #[.int .i64 d,gv],lv] w (AcPost d ll l w):=by
 obtain ⟨la,lc,rfl,-⟩:=hl.shape;have HL:=ι (NpI.mk hl);clear hl;obtain ⟨ga,gc,rfl,hga,hba⟩:=GI.enter (d) h;have K:=ι hba;have G0:=ι hga;clear h hga hba;replace HL:=ι (HL.out.below K.out);obtain ⟨gb,hgb⟩:∃ gb,w.heap.size=gb:=⟨_,rfl⟩
 go_enter Tryz.func99,Tryz.ntmps99
 go_upto_region 0 with (fail);refine wp_region_list ?_;refine Rg.lr 2 (Rg.exec_box _ _ rfl rfl) ?_;go_frame;rw [hgb] at G0 ⊢;have HGB:=ι (show w.heap.size≤gb from Nat.le_of_eq hgb);clear hgb;generalize w.alloc (.cells #[.int .i64 d,.slice ga ll.length gc] 24)=w0 at *;refine Rg.lr 4 (exec_allocG rfl) ?_;go_frame;have hzg:=ZG.new w0;have hb:=(Below.refl w0.heap.size w0).alloc (Nat.le_refl _) (.cells #[.int .i64 0,.slice none 0 0] 24);replace G0:=ι (G0.out.below hb);replace HL:=ι (HL.out.below hb);have HRB:=ι (show w.heap.size≤w0.heap.size from K.out.size);replace K:=ι (Rg.acc K.out hb);obtain ⟨rb,hrb⟩:∃ rb,w0.heap.size=rb:=⟨_,rfl⟩;rw [hrb] at hzg HRB ⊢;generalize w0.alloc (.cells #[.int .i64 0,.slice none 0 0] 24)=w1 at *;have ZF:=ι hzg;clear hzg hb hrb;refine Rg.la 5 (.int .i64 0) ?_;go_frame;obtain ⟨ck,hck⟩:∃ c,Hid (paC d ll l=c):=⟨_,ι rfl⟩;obtain ⟨sb,hsb⟩:∃ b,Hid (isBl d ll l=b):=⟨_,ι rfl⟩
 go_upto_region 1 with (fail);refine wp_region_list ?_;refine Rg.lr 13 (Rg.exec_load (v:=.agg #[.int .i64 d,.slice ga ll.length gc]) _ _ rfl ⟨gb,0,none⟩ rfl (run_loadG G0.out.c0 G0.out.c1)) ?_;go_frame;refine Rg.lm 14 (.slice la l.length lc) ?_;go_frame;refine list_ask (some 15) rfl rfl _ _ (exec_fn 103 _ _ _ rfl rfl rfl (Hrcl5 _ _)) ?_;refine (bright_any _ d ll _ l w1 G0.out.rows HL.out.i hll).mono ?_;rintro e1 w2 ⟨rfl,hb⟩;rw [hck.out];refine ⟨_,rfl,?_⟩;go_frame;replace G0:=ι (G0.out.below hb);replace HL:=ι (HL.out.below hb);replace ZF:=ι (ZF.out.below hb);replace K:=ι (Rg.acc K.out hb);clear hb;refine Rg.la 6 (.int .i64 ck) ?_;go_frame
 by_cases h0:ck=0
 case neg =>
  skip
  go_upto_region 2 with (fail);refine wp_region_list ?_;refine Rg.lm 16 (.int .i64 ck) ?_;go_frame;refine Rg.lr 17 (exec_bin (R:=.bool true) .neq _ _ _ rfl rfl rfl (b_neqB _ (decide_eq_true h0))) ?_;go_frame;go_upto_region 3 with (fail);refine wp_region_list ?_;refine Rg.lr 18 (exec_buildGz rfl) ?_;go_frame;refine Rg.lm 19 (.int .i64 ck) ?_;go_frame;obtain ⟨X1,q1,q2,q3,q4,q5⟩:=zg_store ZF.out K.out HRB.out 0 none 0 0;refine Rg.list_skip none rfl rfl (Rg.exec_store _ _ _ rfl _ rfl _ rfl q1) ?_;go_frame;have HQ:=ι (And.intro q2 (And.intro q3 q4));clear q1 q2 q3 q4 q5;refine Rg.la 5 (.int .i64 ck) ?_;go_frame;go_wp2;exact bodyPost_ret (results_cellG2 rfl _ rfl rfl HQ.out.1 HQ.out.2.1) rfl ⟨_,by rw [acC_g hck.out h0]; rfl,.inl ⟨by rw [acC_g hck.out h0]; exact h0,rfl⟩,HQ.out.2.2⟩
 case pos =>
  have HZ:=ι (hck.out.trans h0);go_upto_region 2 with (fail);refine wp_region_list ?_;refine Rg.lm 16 (.int .i64 ck) ?_;go_frame;refine Rg.lr 17 (exec_bin (R:=.bool false) .neq _ _ _ rfl rfl rfl (b_neqB _ (decide_eq_false (fun e=>e h0)))) ?_;go_frame;clear h0;obtain ⟨hz,D,gs,M,rfl,rfl,rfl,hgg,hD1,hD2,hgl,hML,hMr⟩:=paC_ok HZ.out;have HGG:=ι hgg;have HR:=ι (And.intro hML hMr);have HSY:=ι (show syB D gs M=sb by rw [← isBl_eq]; exact hsb.out);clear hz hgg hML hMr
  cases sb with
  | false =>
   skip
   go_upto_region 4 with (fail);refine wp_region_list ?_;refine Rg.lr 20 (Rg.exec_load (v:=.agg #[.int .i64 ((D:Nat):Int),.slice ga (gs.map Ma.ofN).length gc]) _ _ rfl ⟨gb,0,none⟩ rfl (run_loadG G0.out.c0 G0.out.c1)) ?_;go_frame;refine Rg.lm 21 (.slice la (Ma.ofN M).length lc) ?_;go_frame;refine list_ask (some 22) rfl rfl _ _ (exec_fn 104 _ _ _ rfl rfl rfl (Hrcl6 _ _)) ?_;refine (system_any D _ _ gs M w2 hD1 hD2 G0.out.rows HGG.out (by omega) HL.out.i HR.out.1).mono ?_;rintro e1 w3 ⟨rfl,hb⟩;rw [HSY.out];refine ⟨_,rfl,?_⟩;go_frame;replace G0:=ι (G0.out.below hb);replace HL:=ι (HL.out.below hb);replace ZF:=ι (ZF.out.below hb);replace K:=ι (Rg.acc K.out hb);clear hb;refine Rg.lr 23 (exec_not _ _ false rfl rfl) ?_;go_frame;go_upto_region 5 with (fail);refine wp_region_list ?_;refine Rg.lr 24 (exec_buildGz rfl) ?_;go_frame;obtain ⟨X1,q1,q2,q3,q4,q5⟩:=zg_store ZF.out K.out HRB.out 0 none 0 0
   refine Rg.list_skip none rfl rfl (Rg.exec_store _ _ _ rfl _ rfl _ rfl q1) ?_;go_frame;have HQ:=ι (And.intro q2 (And.intro q3 q4));clear q1 q2 q3 q4 q5;refine Rg.la 5 (.int .i64 ((13:Nat):Int)) ?_;go_frame;go_wp2;exact bodyPost_ret (results_cellG2 rfl _ rfl rfl HQ.out.1 HQ.out.2.1) rfl ⟨_,by rw [acC_f HZ.out hsb.out]; rfl,.inl ⟨by rw [acC_f HZ.out hsb.out]; decide,rfl⟩,HQ.out.2.2⟩
  | true =>
   go_upto_region 4 with (fail);refine wp_region_list ?_;refine Rg.lr 20 (Rg.exec_load (v:=.agg #[.int .i64 ((D:Nat):Int),.slice ga (gs.map Ma.ofN).length gc]) _ _ rfl ⟨gb,0,none⟩ rfl (run_loadG G0.out.c0 G0.out.c1)) ?_;go_frame;refine Rg.lm 21 (.slice la (Ma.ofN M).length lc) ?_;go_frame;refine list_ask (some 22) rfl rfl _ _ (exec_fn 104 _ _ _ rfl rfl rfl (Hrcl6 _ _)) ?_;refine (system_any D _ _ gs M w2 hD1 hD2 G0.out.rows HGG.out (by omega) HL.out.i HR.out.1).mono ?_;rintro e1 w3 ⟨rfl,hb⟩;rw [HSY.out];refine ⟨_,rfl,?_⟩;go_frame;replace G0:=ι (G0.out.below hb);replace HL:=ι (HL.out.below hb);replace ZF:=ι (ZF.out.below hb);replace K:=ι (Rg.acc K.out hb);clear hb;refine Rg.lr 23 (exec_not _ _ true rfl rfl) ?_;go_frame;have HAC:=ι (acC_z HZ.out hsb.out);have HINV:=ι ((syB_iff HR.out.1).1 HSY.out);obtain ⟨dm,hdm⟩:∃ n,Hid (Bk.mny M 0=n):=⟨_,ι rfl⟩
   have hdm1:1≤dm∧dm≤64:=by
    have h1:=(Bk.mem_mny HR.out.2 (M.getD 0 0)).1 (by rw [Bk.getD_lt (by rw [HR.out.1]; omega)]; exact List.getElem_mem _);have h2:=Bk.mny_le M 0;rw [HR.out.1] at h2;rw [hdm.out] at h1 h2;omega
   have hlt:∀ i,i<D→M.getD i 0<dm:=fun i hi=>by
    rw [← hdm.out];exact (Bk.mem_mny HR.out.2 _).1 (by rw [Bk.getD_lt (by rw [HR.out.1]; omega)]; exact List.getElem_mem _)
   have HLT:=ι hlt;clear hlt;obtain ⟨lb,lo,lc',hlv,hlx⟩:=HL.out.at HR.out.1 hD1
   have hll2:(Ma.ofN M).length=D:=by rw [Ma.len_ofN]; exact HR.out.1
   rw [hll2] at HL hlv ⊢
   injection hlv with e1 _ e3
   subst e1 e3;have HLX:=ι hlx;clear hlx;go_upto_region 6 with (fail);refine wp_region_list ?_;refine Rg.lm 25 (.slice (some ⟨lb,lo,none⟩) D lc) ?_;go_frame;refine list_ask (some 26) rfl rfl _ _ (exec_fn1 95 _ _ rfl rfl (Hocl3 _ _)) ?_;refine (Max_any _ M w3 (show Rg.NP _ _ M from HL.out.i) (by rw [HR.out.1]; exact hD1) (by rw [HR.out.1]; omega) (fun x hx=>by have:=Bk.rgc_lt HR.out.2 x hx; rw [HR.out.1] at this; omega)).mono ?_;rintro e1 w4 ⟨mx,rfl,hm1,hm2,hb⟩
   have hmx:mx+1=dm:=by rw [← hdm.out]; exact Bk.max_mny HR.out.2 hm1 hm2
   have HW0:=ι hb;clear hm1 hm2;refine ⟨_,rfl,?_⟩;go_frame;replace G0:=ι (G0.out.below hb);replace HL:=ι (HL.out.below hb);replace ZF:=ι (ZF.out.below hb);replace K:=ι (Rg.acc K.out hb);clear hb;refine Rg.lr 27 (exec_bin (R:=.int .i64 ((dm:Nat):Int)) .add _ _ _ rfl rfl rfl (b_add _ (by omega) (by omega))) ?_;go_frame;refine Rg.lr 28 (exec_buildG1 (d:=((dm:Nat):Int)) _ rfl rfl) ?_;go_frame;obtain ⟨X2,s1,zd,hb2⟩:=zd_new w4 dm;refine Rg.lr 7 (exec_allocG rfl) ?_;go_frame;refine Rg.list_skip none rfl rfl (Rg.exec_store _ _ _ rfl _ rfl _ rfl s1) ?_;go_frame;clear s1;have HWB:=ι K.out;have GB:=ι G0.out;have LB:=ι HL.out;have ZB:=ι ZF.out
   have LX:=ι (fun i (hi:i<D)=>(HLX.out i hi).up (show Below w3.heap.size w3 w4 from by first | exact HW0.out | exact Below.refl _ _))
   obtain ⟨hb3,hhb⟩:∃ b,w4.heap.size=b:=⟨_,rfl⟩;have AM:=ι (show AcM w4 X2 hb3 dm (fun _=>False) (.slice none 0 0) ([].map (Bk.acB M)) by rw [← hhb]; exact zd.start hb2 (Nat.le_refl _));rw [hhb];clear hhb zd hb2 hmx G0 HL ZF HLX HW0 K;have G0:=ι (GB.out.below AM.out.bel);go_upto_region 7 with (fail);refine wp_region_list ?_;refine Rg.lr 29 (exec_fieldG _ rfl rfl) ?_;go_frame;refine Rg.lr 30 (Rg.exec_load (v:=.slice ga (gs.map Ma.ofN).length gc) _ _ rfl ⟨gb,1,none⟩ rfl (Rg.run_loadSl _ _ Tryz.underlying22 G0.out.c1)) ?_;go_frame;refine Rg.lr 31 (exec_len _ _ _ rfl Tryz.underlying22 _ _ _ rfl) ?_;go_frame;refine Rg.lm 32 (.int .i64 ((0:Nat):Int)) ?_;go_frame;have hlm:(gs.map Ma.ofN).length=gs.length:=List.length_map ..;rw [hlm];clear G0;have HMS:=ι hlm;clear hlm;obtain ⟨F0,hF0⟩:∃ F:Nat→Prop,(fun _=>False)=F:=⟨_,rfl⟩;rw [hF0] at AM;clear hF0;go_wp2
   go_loopw [32] (fun sv wr=>∃ (s:Nat) (F:Nat→Prop) (gv:Value),sv=.int .i64 ((s:Nat):Int)∧s≤gs.length∧Hid (AcM w4 wr hb3 dm F gv ((gs.take s).map (Bk.acB M)))) (fun sv _=>gs.length - (intOf sv).toNat)
   case atStart=>exact ⟨0,_,_,rfl,Nat.zero_le _,AM⟩
   case round =>
    clear AM;obtain ⟨s,F,gv,rfl,hs,AM⟩:=hrel;obtain ⟨va,vc,hvs⟩:=AM.out.rw.shape;rw [List.length_map,List.length_take,Nat.min_eq_left hs] at hvs;subst hvs;generalize wr=wd at *;have G0:=ι (GB.out.below AM.out.bel);have ZF:=ι (ZB.out.below AM.out.bel)
    by_cases hsg:s<gs.length
    case neg =>
     have hsg2:s=gs.length:=by omega
     have hc1:(gs.map Ma.ofN).length=gs.length:=HMS.out;have G1:=ι (show wd.cell? ⟨gb,1,none⟩=some (.slice ga gs.length gc) by rw [← hc1]; exact G0.out.c1);go_upto_region 8 with (fail);refine wp_region_list ?_;refine Rg.lr 33 (exec_bin (R:=.bool false) .lss _ _ _ rfl rfl rfl (b_lss _ (decide_eq_false (by omega)))) ?_;go_frame
     have HRW:=ι (show Rg.Rows wd (.slice va s vc) ((gs.map (Bk.acB M)).map Ma.ofN) by
      have h:=AM.out.rw.rows (by rw [List.length_map,List.length_take]; omega);rw [hsg2,List.take_length] at h;rw [hsg2]
      exact h)
     obtain ⟨X1,q1,q2,q3,q4,q5⟩:=zg_store ZF.out (Rg.acc HWB.out AM.out.bel) HRB.out ((dm:Nat):Int) va s vc;have hrk:=AM.out.rw.kp q5 (fun k hk e=>by have h1:=AM.out.Flo k hk; have h2:=ZB.out.lt; omega) (fun k hk e=>by have h1:=(AM.out.rw.lt k hk).1; have h2:=ZB.out.lt; omega)
     have HRW2:=ι (show Rg.Rows X1 (.slice va gs.length vc) ((gs.map (Bk.acB M)).map Ma.ofN) by
      have h:=hrk.rows (by rw [List.length_map,List.length_take]; omega);rw [hsg2,List.take_length] at h
      exact h)
     go_upto_region 18 with (fail);refine wp_region_list ?_;refine Rg.lr 64 (Rg.exec_load (v:=.agg #[.int .i64 ((dm:Nat):Int),.slice va s vc]) _ _ rfl ⟨hb3,0,none⟩ rfl (run_loadG AM.out.g0.cell AM.out.g1)) ?_;go_frame;refine Rg.list_skip none rfl rfl (Rg.exec_store _ _ _ rfl _ rfl _ rfl q1) ?_;go_frame;have HQ:=ι (And.intro q2 (And.intro q3 q4));clear q1 q2 q3 q4 q5 hrk;refine Rg.la 5 (.int .i64 ((0:Nat):Int)) ?_;go_frame;go_wp2;refine bodyPost_ret (results_cellG2 rfl _ rfl rfl HQ.out.1 HQ.out.2.1) rfl ⟨_,by rw [HAC.out]; rfl,.inr ⟨HAC.out,gs,M,va,vc,rfl,rfl,?_,HRW2.out⟩,HQ.out.2.2⟩;rw [hdm.out,hsg2]
    case pos =>
     have HSG:=ι hsg;obtain ⟨gg,go,sb',so,sc,rfl,hcg,hcs⟩:=G0.out.at HGG.out hD1 hsg;have CG:=ι hcg;have CS:=ι hcs;have hc1:(gs.map Ma.ofN).length=gs.length:=HMS.out;have G1:=ι (show wd.cell? ⟨gb,1,none⟩=some (.slice (some ⟨gg,go,none⟩) gs.length gc) by rw [← hc1]; exact G0.out.c1);clear hcg hcs hc1;go_upto_region 8 with (fail);refine wp_region_list ?_;refine Rg.lr 33 (exec_bin (R:=.bool true) .lss _ _ _ rfl rfl rfl (b_lss _ (decide_eq_true (by omega)))) ?_;go_frame;go_upto_region 9 with (fail);refine wp_region_list ?_;refine Rg.lr 34 (exec_indexS slPerms _ _ rfl gg (go) (gs.length) gc (s) rfl rfl hsg) ?_;go_frame;refine Rg.lr 35 (Rg.exec_load (v:=.slice (some ⟨sb',so,none⟩) D sc) _ _ rfl ⟨gg,go+s,none⟩ rfl (Rg.run_loadSl _ _ Tryz.underlying51 CG.out.cell)) ?_;go_frame;refine Rg.la 9 (.slice (some ⟨sb',so,none⟩) D sc) ?_;go_frame;go_upto_region 10 with (fail)
     refine wp_region_list ?_;refine Rg.lr 36 (exec_fieldG0 _ rfl rfl) ?_;go_frame;refine Rg.lr 37 (Rg.exec_load (v:=.int .i64 ((dm:Nat):Int)) _ _ rfl ⟨hb3,0,none⟩ rfl (run_loadInt AM.out.g0.cell)) ?_;go_frame;refine Rg.lr 38 (exec_makeSlice _ _ _ rfl _ _ rfl rfl (mkPerm dm (by omega) wd)) ?_;go_frame;refine Rg.la 10 (.slice (some ⟨wd.heap.size,0,none⟩) dm dm) ?_;go_frame;have hrw:=made_row wd dm;have hbw:Below wd.heap.size wd (wd.alloc (.cells (madeCells #[.int .i64 0] dm) 3)):=(Below.refl _ _).alloc (Nat.le_refl _) _;obtain ⟨xb,hxb⟩:∃ b,wd.heap.size=b:=⟨_,rfl⟩;have HXB:=ι (show wd.heap.size≤xb from Nat.le_of_eq hxb);rw [hxb] at hrw ⊢;generalize wd.alloc (.cells (madeCells #[.int .i64 0] dm) 3)=we at *;have RW:=ι (show RwAt we xb dm (Bk.fil M (gs[s]'hsg) (fun _=>0) 0) by rw [Bk.fil_zero]; exact hrw);have HCAP:=ι (show dm≤dm∧dm≤maxLen from ⟨Nat.le_refl _,by unfold maxLen; omega⟩)
     have KE:=ι hbw;clear hrw hbw hxb;go_upto_region 11 with (fail);refine wp_region_list ?_;refine Rg.lm 39 (.slice (some ⟨lb,lo,none⟩) D lc) ?_;go_frame;refine Rg.lr 40 (exec_len _ _ _ rfl Tryz.underlying36 _ _ _ rfl) ?_;go_frame;refine Rg.lm 41 (.int .i64 ((0:Nat):Int)) ?_;go_frame;go_wp2
     go_loopw [41] (fun iv wr=>∃ i:Nat,iv=.int .i64 ((i:Nat):Int)∧i≤D∧Hid (RwAt wr xb dm (Bk.fil M (gs[s]'HSG.out) (fun _=>0) i))∧Hid (Below wd.heap.size wd wr)) (fun iv _=>D - (intOf iv).toNat)
     case atStart=>exact ⟨0,rfl,Nat.zero_le _,RW,KE⟩
     case round =>
      clear RW KE;obtain ⟨i,rfl,hi,RW,KE⟩:=hrel;generalize wr=wf at *
      by_cases hiD:i<D
      case pos =>
       have HID:=ι hiD;obtain ⟨n,hn⟩:∃ x,Hid (M.getD i 0=x):=⟨_,ι rfl⟩;obtain ⟨j,hj⟩:∃ x,Hid (img gs s i=x):=⟨_,ι rfl⟩;obtain ⟨v,hv⟩:∃ x,Hid (M.getD j 0=x):=⟨_,ι rfl⟩
       have hjD:j<D:=by rw [← hj.out]; exact img_lt HGG.out s i HSG.out hiD
       have hnd:n<dm:=by rw [← hn.out]; exact HLT.out i hiD
       have hvd:v<dm:=by rw [← hv.out]; exact HLT.out j hjD
       have HV9:=ι (show v=(Bk.acB M (gs[s]'HSG.out)).getD n 0 by rw [← hv.out,← hj.out,← hn.out]; exact put_val HR.out.1 HR.out.2 HINV.out HSG.out hiD);have C1:=ι (show CL wf lb (lo+i) (.int .i64 ((n:Nat):Int)) by rw [← hn.out]; exact ((LX.out i hiD).up AM.out.bel).up KE.out);have C2:=ι (show CL wf sb' (so+i) (.int .i64 ((j:Nat):Int)) by rw [← hj.out]; exact (CS.out i hiD).up KE.out);have C3:=ι (show CL wf lb (lo+j) (.int .i64 ((v:Nat):Int)) by rw [← hv.out]; exact ((LX.out j hjD).up AM.out.bel).up KE.out);have CG2:=ι (CG.out.up KE.out);have CG1:=ι (show CL wf gb 1 (.slice (some ⟨gg,go,none⟩) gs.length gc) from CL.up (CL.mk G1.out G0.out.lt) KE.out);obtain ⟨F9,hFd⟩:∃ F:Nat→Prop,F=F:=⟨fun _=>False,rfl⟩;clear hFd;have D1:=ι (show wf.cell? ⟨xb,0+n,none⟩=some (.int .i64 (Bk.fil M (gs[s]'HSG.out) (fun _=>0) i n)) by rw [Nat.zero_add]; exact RW.out.2.1 n hnd)
       have D2:=ι (show wf.frozen? ⟨xb,0+n,none⟩=false by rw [Nat.zero_add]; exact RW.out.2.2 n);go_upto_region 12 with (fail);refine wp_region_list ?_;refine Rg.lr 42 (exec_bin (R:=.bool true) .lss _ _ _ rfl rfl rfl (b_lss _ (decide_eq_true (by omega)))) ?_;go_frame;go_upto_region 13 with (fail);refine wp_region_list ?_;refine Rg.lm 43 (.int .i64 ((i:Nat):Int)) ?_;go_frame;refine Rg.lr 44 (exec_indexS slInts _ _ rfl lb (lo) (D) lc (i) rfl rfl hiD) ?_;go_frame;refine Rg.lr 45 (Rg.exec_load (v:=.int .i64 ((n:Nat):Int)) _ _ rfl ⟨lb,lo+i,none⟩ rfl (run_loadInt C1.out.cell)) ?_;go_frame;refine Rg.la 11 (.int .i64 ((i:Nat):Int)) ?_;go_frame;refine Rg.la 12 (.int .i64 ((n:Nat):Int)) ?_;go_frame;go_upto_region 14 with (fail);refine wp_region_list ?_;refine Rg.lm 46 (.slice (some ⟨xb,0,none⟩) dm dm) ?_;go_frame;refine Rg.lm 47 (.int .i64 ((n:Nat):Int)) ?_;go_frame
       refine Rg.lm 48 (.slice (some ⟨lb,lo,none⟩) D lc) ?_;go_frame;refine Rg.lm 49 (.slice (some ⟨sb',so,none⟩) D sc) ?_;go_frame;refine Rg.lm 50 (.int .i64 ((i:Nat):Int)) ?_;go_frame;refine Rg.lr 51 (exec_indexS slPerm _ _ rfl sb' (so) (D) sc (i) rfl rfl hiD) ?_;go_frame;refine Rg.lr 52 (Rg.exec_load (v:=.int .i64 ((j:Nat):Int)) _ _ rfl ⟨sb',so+i,none⟩ rfl (run_loadInt C2.out.cell)) ?_;go_frame;refine Rg.lr 53 (exec_indexS slInts _ _ rfl lb (lo) (D) lc (j) rfl rfl hjD) ?_;go_frame;refine Rg.lr 54 (Rg.exec_load (v:=.int .i64 ((v:Nat):Int)) _ _ rfl ⟨lb,lo+j,none⟩ rfl (run_loadInt C3.out.cell)) ?_;go_frame;refine Rg.lr 55 (exec_indexS slPerm _ _ rfl xb (0) (dm) dm (n) rfl rfl hnd) ?_;go_frame;refine Rg.list_skip none rfl rfl (Rg.exec_store _ _ _ rfl _ rfl _ rfl (run_storeIntB _ D1.out D2.out)) ?_;go_frame;have hrs:=RW.out.set n ((v:Nat):Int) hnd;rw [fil_put (by rw [HR.out.1]; exact HID.out) hn.out HV9.out] at hrs
       have hks:Below wd.heap.size wd (wf.setCell ⟨xb,0+n,none⟩ (.int .i64 ((v:Nat):Int))):=KE.out.setCell (p:=⟨xb,0+n,none⟩) HXB.out _;rw [Nat.zero_add] at hks ⊢;generalize wf.setCell ⟨xb,n,none⟩ (.int .i64 ((v:Nat):Int))=w98 at *;have RW9:=ι hrs;have KE9:=ι hks;clear hrs hks C1 C2 C3 CG1 CG2;go_upto_region 15 with (fail);refine wp_region_list ?_;refine Rg.lr 56 (exec_bin (R:=.int .i64 (((i+1):Nat):Int)) .add _ _ _ rfl rfl rfl (b_add _ (by omega) (by omega))) ?_;go_frame;refine Rg.lm 41 (.int .i64 (((i+1):Nat):Int)) ?_;go_frame;go_wp2
       go_roundw
       case rel=>exact ⟨i+1,by go_num,HID.out,RW9,KE9⟩
       case measure=>simp [intOf]; have:=HID.out; omega
      case neg =>
       have hiD2:i=D:=by omega
       have NPX:=ι (show Rg.NP wf (.slice (some ⟨xb,0,none⟩) dm dm) (Bk.acB M (gs[s]'HSG.out)) by
        have h:=RW.out;rw [hiD2,← HR.out.1,← hdm.out] at h;have h2:=row_done h HR.out.2 (by rw [hdm.out]; exact HCAP.out.1) HCAP.out.2 (by rw [hdm.out]; omega)
        rwa [hdm.out] at h2)
       have AM2:=ι (AM.out.up KE.out);have HFP:=ι (np_fp (F:=F) NPX.out HXB.out RW.out.1);obtain ⟨a9,c9,X9,r1x,r2,r3,r4⟩:=AM2.out.push HFP.out ⟨_,_,_,rfl⟩ (by rw [List.length_map,List.length_take]; omega) 22;rw [List.length_map,List.length_take,Nat.min_eq_left hs] at r1x r4
       have AM3:=ι (show AcM w4 (X9.setCell ⟨hb3,1,none⟩ (.slice a9 (s+1) c9)) hb3 dm _ (.slice a9 (s+1) c9) ((gs.take (s+1)).map (Bk.acB M)) by
        rw [List.take_succ_eq_append_getElem HSG.out,List.map_append]; exact r4)
       have HR2:=ι r2;have HR3:=ι r3;have AL0:=ι AM2.out.g0;have AL1:=ι AM2.out.g1;clear r2 r3 r4;go_upto_region 12 with (fail);refine wp_region_list ?_;refine Rg.lr 42 (exec_bin (R:=.bool false) .lss _ _ _ rfl rfl rfl (b_lss _ (decide_eq_false (by omega)))) ?_;go_frame;go_upto_region 16 with (fail);refine wp_region_list ?_;refine Rg.lr 57 (exec_fieldG _ rfl rfl) ?_;go_frame;refine Rg.lr 58 (Rg.exec_load (v:=.slice va s vc) _ _ rfl ⟨hb3,1,none⟩ rfl (Rg.run_loadSl _ _ Tryz.underlying22 AL1.out)) ?_;go_frame;refine Rg.lm 59 (.slice (some ⟨xb,0,none⟩) dm dm) ?_;go_frame;refine Rg.lr 60 (Rg.exec_buildSlice _ _ _ rfl (.slice (some ⟨xb,0,none⟩) dm dm) rfl (run_build1P wf _ ⟨_,_,_,rfl⟩)) ?_;go_frame;refine Rg.lr 61 (Rg.exec_append _ _ _ rfl rfl rfl r1x) ?_;go_frame;refine Rg.lr 62 (exec_fieldG _ rfl rfl) ?_;go_frame;refine Rg.list_skip none rfl rfl (Rg.exec_store _ _ _ rfl _ rfl _ rfl (Rg.run_storeSl _ infoPermsV HR2.out HR3.out)) ?_;go_frame
       generalize X9.setCell ⟨hb3,1,none⟩ (.slice a9 (s+1) c9)=w399 at *;clear r1x HR2 HR3;go_upto_region 17 with (fail);refine wp_region_list ?_;refine Rg.lr 63 (exec_bin (R:=.int .i64 (((s+1):Nat):Int)) .add _ _ _ rfl rfl rfl (b_add _ (by omega) (by omega))) ?_;go_frame;refine Rg.lm 32 (.int .i64 (((s+1):Nat):Int)) ?_;go_frame;go_wp2
       go_roundw
       case rel=>exact ⟨s+1,_,_,by go_num,HSG.out,AM3⟩
       case measure=>simp [intOf]; have:=HSG.out; omega

structure JoM (w W:World) (ob n:Nat) (g:Nat→Int):Prop where
 bel:Below w.heap.size w W
 r:RZ W ob n g
 lo:w.heap.size≤ob
theorem JoM.below {w W W':World} {ob n:Nat} {g:Nat→Int} (h:JoM w W ob n g) (hb:Below W.heap.size W W'):JoM w W' ob n g:=⟨Rg.acc h.bel hb,h.r.below hb,h.lo⟩
theorem JoM.set {w W:World} {ob n:Nat} {g g':Nat→Int} (h:JoM w W ob n g) {k:Nat} (hk:k<n) (v:Int) (hg:∀ j,j<n→(if j=k then v else g j)=g' j):JoM w (W.setCell ⟨ob,0+k,none⟩ (.int .i64 v)) ob n g':=by
 have hkp:Rg.Kp (fun z=>z=ob) W (W.setCell ⟨ob,0+k,none⟩ (.int .i64 v)):=Rg.Kp.of_setCell rfl;exact ⟨Rg.Kp.below h.bel hkp (fun z e=>e▸h.lo),h.r.set hk v hg,h.lo⟩
theorem JoM.same {w W:World} {ob n:Nat} {g g':Nat→Int} (h:JoM w W ob n g) (hg:g=g'):JoM w W ob n g':=hg▸h

theorem grp_new (w:World) (d:Int) (a:Option Addr) (n c:Nat):∃ X,(storeVar 24 ⟨w.heap.size,0,none⟩ (.agg #[.int .i64 d,.slice a n c])).run Tryz.prog (w.alloc (.cells #[.int .i64 0,.slice none 0 0] 24))=.ok () X∧CL X w.heap.size 0 (.int .i64 d)∧CL X w.heap.size 1 (.slice a n c)∧Below w.heap.size w X:=by
 obtain ⟨X,h1,h2,h3,h4,h5⟩:=zg_store (ZG.new w) ((Below.refl w.heap.size w).alloc (Nat.le_refl _) _) (Nat.le_refl _) d a n c;have h6:=h5.size;have h7:=(ZG.new w).lt;exact ⟨X,h1,⟨h2,by omega⟩,⟨h3,by omega⟩,h4⟩

def TrIs (O:List (List Nat)) (D k:Nat):Prop:=k≤D∧(∀ i,i<k→(O.getD i []).length=D - i)∧(k=D∨(O.getD k []).length≠D - k)
theorem TrIs.uniq {O:List (List Nat)} {D k k':Nat} (h:TrIs O D k) (h':TrIs O D k'):k=k':=by
 obtain ⟨a1,a2,a3⟩:=h;obtain ⟨b1,b2,b3⟩:=h'
 rcases Nat.lt_trichotomy k k' with e | e | e
 ·rcases a3 with a3 | a3
  ·omega
  ·exact absurd (b2 k e) a3
 ·exact e
 ·rcases b3 with b3 | b3
  ·omega
  ·exact absurd (a2 k' e) b3
def trB (O:List (List Nat)) (D k:Nat):Bool:=decide (k≤D) && ((List.range k).all fun i=>decide ((O.getD i []).length=D - i)) && (decide (k=D) || decide ((O.getD k []).length≠D - k))
theorem trB_ok {O:List (List Nat)} {D k:Nat} (h:trB O D k=true):TrIs O D k:=by
 unfold trB at h;simp only [Bool.and_eq_true,List.all_eq_true,List.mem_range,decide_eq_true_eq,Bool.or_eq_true] at h;exact ⟨h.1.1,h.1.2,h.2⟩
def tabC4:List TE:=[⟨0,0,[0,1,2,3],[]⟩,⟨0,1,[1,2,3,0],[0]⟩,⟨0,2,[2,3,0,1],[0,0]⟩,⟨0,3,[3,0,1,2],[0,0,0]⟩,⟨1,1,[0,1,2,3],[]⟩,⟨2,2,[0,1,2,3],[]⟩,⟨3,3,[0,1,2,3],[]⟩]
theorem tabC4_ok:tabOK 4 [cyl 4] tabC4=true:=by decide +kernel
theorem degC4 {O:List (List Nat)} {R:List (List (List Nat))} (h:Cm.IsChain 4 (Cm.Gr 4 (·∈[cyl 4])) O R):TrIs O 4 1:=by
 rw [chain_tab tabC4_ok h];exact trB_ok (by decide +kernel)
def tabS4:List TE:=[⟨0,0,[0,1,2,3],[]⟩,⟨0,1,[1,2,3,0],[0]⟩,⟨0,2,[2,3,0,1],[0,0]⟩,⟨0,3,[3,0,1,2],[0,0,0]⟩,⟨1,1,[0,1,2,3],[]⟩,⟨1,2,[0,2,3,1],[0,1]⟩,⟨1,3,[0,3,1,2],[0,1,0,1]⟩,⟨2,2,[0,1,2,3],[]⟩,⟨2,3,[0,1,3,2],[0,0,1,0,0]⟩,⟨3,3,[0,1,2,3],[]⟩]
theorem tabS4_ok:tabOK 4 gs4 tabS4=true:=by decide +kernel
theorem degS4 {O:List (List Nat)} {R:List (List (List Nat))} (h:Cm.IsChain 4 (Cm.Gr 4 (·∈gs4)) O R):TrIs O 4 4:=by
 rw [chain_tab tabS4_ok h];exact trB_ok (by decide +kernel)
def tabV2:List TE:=[⟨0,0,[0,1,2,3],[]⟩,⟨0,1,[1,0,2,3],[0]⟩,⟨1,1,[0,1,2,3],[]⟩,⟨2,2,[0,1,2,3],[]⟩,⟨2,3,[0,1,3,2],[1]⟩,⟨3,3,[0,1,2,3],[]⟩]
theorem tabV2_ok:tabOK 4 gs2 tabV2=true:=by decide +kernel
theorem degV2 {O:List (List Nat)} {R:List (List (List Nat))} (h:Cm.IsChain 4 (Cm.Gr 4 (·∈gs2)) O R):TrIs O 4 0:=by
 rw [chain_tab tabV2_ok h];exact trB_ok (by decide +kernel)
def tabC6:List TE:=[⟨0,0,[0,1,2,3,4,5],[]⟩,⟨0,1,[1,2,3,4,5,0],[0]⟩,⟨0,2,[2,3,4,5,0,1],[0,0]⟩,⟨0,3,[3,4,5,0,1,2],[0,0,0]⟩,⟨0,4,[4,5,0,1,2,3],[0,0,0,0]⟩,⟨0,5,[5,0,1,2,3,4],[0,0,0,0,0]⟩,⟨1,1,[0,1,2,3,4,5],[]⟩,⟨2,2,[0,1,2,3,4,5],[]⟩,⟨3,3,[0,1,2,3,4,5],[]⟩,⟨4,4,[0,1,2,3,4,5],[]⟩,⟨5,5,[0,1,2,3,4,5],[]⟩]
theorem tabC6_ok:tabOK 6 [cyl 6] tabC6=true:=by decide +kernel
theorem degC6 {O:List (List Nat)} {R:List (List (List Nat))} (h:Cm.IsChain 6 (Cm.Gr 6 (·∈[cyl 6])) O R):TrIs O 6 1:=by
 rw [chain_tab tabC6_ok h];exact trB_ok (by decide +kernel)
theorem cy6_g:Ma.gchk ((6:Nat):Int) ([cyl 6].map Ma.ofN)=0:=by decide +kernel
theorem cy6_t:trn [cyl 6] 6=true:=by decide +kernel
def sys6:List (List Nat):=[[0,0,0,0,0,0],[0,1,0,1,0,1],[0,1,2,0,1,2],[0,1,2,3,4,5]]
theorem cy6_all:Bk.AllB 6 1 (img [cyl 6]) sys6 :=
 ⟨by decide +kernel,fun y=>chkA_ok (k:=6) (f0:=[0,1,2,3,4,5]) (Bs:=[[0,0,0,0,0,0],[0,1,0,1,0,1],[0,1,2,0,1,2],[0,1,0,1,0,1],[0,0,0,0,0,0]]) (by decide) (gg_chk cy6_g) (by decide +kernel) y⟩
theorem cy6_asc:AscL sys6:=by unfold AscL; decide +kernel
theorem gs2_t:trn gs2 4=false:=by decide +kernel
theorem cy25_g:Ma.gchk ((25:Nat):Int) ([cyl 25].map Ma.ofN)=0:=by decide +kernel
theorem cy25_t:trn [cyl 25] 25=true:=by decide +kernel
theorem cy24_g:Ma.gchk ((24:Nat):Int) ([cyl 24].map Ma.ofN)=0:=by decide +kernel
theorem cy24_t:trn [cyl 24] 24=true:=by decide +kernel
theorem cy4_01:Bk.IsLab 4 (Bk.BR 1 (img [cyl 4]) (Bk.onep 0 1)) [0,0,0,0]:=by
 have:=chkL_ok (k:=4) (T:=[(0,1)]) (L:=[0,0,0,0]) (gg_chk cy4_g) (by decide +kernel)
 rwa [inT_one] at this
theorem cy4_11:Bk.IsLab 4 (Bk.BR 1 (img [cyl 4]) (Bk.onep 1 1)) [0,1,2,3]:=by
 have:=chkL_ok (k:=4) (T:=[(1,1)]) (L:=[0,1,2,3]) (gg_chk cy4_g) (by decide +kernel)
 rwa [inT_one] at this
theorem cy4_np:false=true↔PrB 4 [cyl 4]:=by
 refine ⟨fun h=>(Bool.false_ne_true h).elim,fun h=>?_⟩;have:=h.2.2 2 (by decide) (by decide) _ cy4_02 1 (by decide);omega
theorem gs2_np:false=true↔PrB 4 gs2:=by
 refine ⟨fun h=>(Bool.false_ne_true h).elim,fun h=>?_⟩;have:=h.2.1;rw [gs2_t] at this; exact this
def dv24:List Nat:=[1,2,3,4,6,8,12,24]
def lab24 (g:Nat):List Nat:=(List.range 24).map (· % g)
theorem lab24_at {g i:Nat} (hi:i<24):(lab24 g).getD i 0=i % g:=by
 rw [Bk.getD_lt (by unfold lab24; simpa using hi)];simp [lab24]
theorem lab24_rgc:∀ g∈dv24,Bk.rgcB (lab24 g) 0=true:=by decide +kernel
theorem img24 {i:Nat} (hi:i<24):img [cyl 24] 0 i=(i+1) % 24:=by
 show (cyl 24).getD i 0=_;rw [Bk.getD_lt (by unfold cyl; simpa using hi)];simp [cyl]
theorem dv24_act:∀ g∈dv24,∀ i,i<24→∀ j,j<24→i % g=j % g→((i+1) % 24) % g=((j+1) % 24) % g:=by decide +kernel
theorem dv24_step:∀ g∈dv24,∀ i,i<24→∀ j,j<24→i % g=j % g→∃ t,t<24∧(i+t*g) % 24=j:=by decide +kernel
theorem dv24_mul:∀ p,p<24→∃ u,u<24∧(u*p) % 24=Nat.gcd p 24 % 24:=by decide +kernel
theorem dv24_gcd:∀ p,p<24→Nat.gcd p 24∈dv24∧0 % (Nat.gcd p 24)=p % (Nat.gcd p 24):=by decide +kernel
theorem dv24_meet:∀ a∈dv24,∀ b∈dv24,Nat.gcd a b∈dv24∧∀ i,i<24→∃ k,k<24∧i % a=k % a∧k % b=((i+Nat.gcd a b) % 24) % b:=by decide +kernel
theorem dv24_dvd {a b i j:Nat} (h:i % a=j % a∨i % b=j % b):i % (Nat.gcd a b)=j % (Nat.gcd a b):=by
 rcases h with h | h
 ·rw [← Nat.mod_mod_of_dvd i (Nat.gcd_dvd_left a b),h,Nat.mod_mod_of_dvd j (Nat.gcd_dvd_left a b)]
 ·rw [← Nat.mod_mod_of_dvd i (Nat.gcd_dvd_right a b),h,Nat.mod_mod_of_dvd j (Nat.gcd_dvd_right a b)]
theorem gg24:GG 24 [cyl 24]:=gg_chk cy24_g
theorem lab24_is {g:Nat} {P:Nat→Nat→Prop} (hg:g∈dv24) (h1:∀ a b,P a b→(a<24∧b<24)∧a % g=b % g) (h2:∀ i j,i<24→j<24→i % g=j % g→Bk.BR 1 (img [cyl 24]) P i j):Bk.IsLab 24 (Bk.BR 1 (img [cyl 24]) P) (lab24 g):=by
 refine ⟨by unfold lab24; simp,Bk.rgcB_ok (lab24_rgc g hg),fun i j hi hj=>?_⟩;rw [lab24_at hi,lab24_at hj];refine ⟨h2 i j hi hj,fun h=>?_⟩;refine Bk.BR.least (n:=24) (E:=fun a b=>a % g=b % g) (fun a b h=>(h1 a b h).1) (img_lt gg24) (fun _ _=>rfl) (fun _ _ _ _ h=>Eq.symm h) (fun _ _ _ _ _ _ h1 h2=>Eq.trans h1 h2) (fun s a b hs ha hb e=>?_) (fun a b h=>(h1 a b h).2) h hi hj
 obtain rfl:s=0:=by have:s<1:=hs; omega
 rw [img24 ha,img24 hb];exact dv24_act g hg a ha b hb e
theorem base24_walk {P:Nat→Nat→Prop} {p:Nat} (hp:p<24) (h:Bk.BR 1 (img [cyl 24]) P 0 p):∀ i,i<24→Bk.BR 1 (img [cyl 24]) P i ((i+p) % 24)
 | 0,_=>by rw [Nat.zero_add,Nat.mod_eq_of_lt hp]; exact h
 | i+1,hi=>by
  have h1:=base24_walk hp h i (by omega);have h2:=Bk.BR.act (show 0<1 by decide) h1;rw [img24 (by omega),img24 (Nat.mod_lt _ (by decide))] at h2;have e1:(i+1) % 24=i+1:=Nat.mod_eq_of_lt hi
  have e2:((i+p) % 24+1) % 24=(i+1+p) % 24:=by omega
  rwa [e1,e2] at h2
theorem base24_walks {P:Nat→Nat→Prop} {p:Nat} (h:∀ i,i<24→Bk.BR 1 (img [cyl 24]) P i ((i+p) % 24)) {i:Nat} (hi:i<24):∀ t,Bk.BR 1 (img [cyl 24]) P i ((i+t*p) % 24)
 | 0=>by rw [Nat.zero_mul,Nat.add_zero,Nat.mod_eq_of_lt hi]; exact .refl i
 | t+1=>by
  have h1:=base24_walks h hi t;have h2:=h ((i+t*p) % 24) (Nat.mod_lt _ (by decide))
  have e:((i+t*p) % 24+p) % 24=(i+(t+1)*p) % 24:=by rw [Nat.succ_mul]; omega
  rw [e] at h2;exact .trans h1 h2
theorem base24 {p:Nat} (hp:p<24):Bk.IsLab 24 (Bk.BR 1 (img [cyl 24]) (Bk.onep 0 p)) (lab24 (Nat.gcd p 24)):=by
 obtain ⟨h1,h2⟩:=dv24_gcd p hp;refine lab24_is h1 (fun a b h=>?_) (fun i j hi hj e=>?_)
 ·obtain ⟨rfl,rfl⟩:=h
  exact ⟨⟨by decide,hp⟩,h2⟩
 ·obtain ⟨t,_,e⟩:=dv24_step _ h1 i hi j hj e
  obtain ⟨u,_,e2⟩:=dv24_mul p hp;have:=base24_walks (base24_walk hp (.base ⟨rfl,rfl⟩:Bk.BR 1 (img [cyl 24]) (Bk.onep 0 p) 0 p)) hi (t*u)
  have e3:(i+t*u*p) % 24=j:=by
   rw [← e,Nat.mul_assoc,Nat.add_mod,Nat.mul_mod,e2,← Nat.mul_mod,← Nat.add_mod]
  rwa [e3] at this
theorem first24:Bk.Fst0 24 1 (img [cyl 24]) (lab24 24) :=
 lab24_is (by decide) (fun _ _ h=>h.elim) (fun i j hi hj e=>by rw [Nat.mod_eq_of_lt hi,Nat.mod_eq_of_lt hj] at e; rw [e]; exact .refl j)
theorem join24 {a b:Nat} (ha:a∈dv24) (hb:b∈dv24):Bk.IsLab 24 (Bk.BR 1 (img [cyl 24]) (Bk.both 24 (lab24 a) (lab24 b))) (lab24 (Nat.gcd a b)):=by
 obtain ⟨h1,h2⟩:=dv24_meet a ha b hb
 have key:∀ g i j,i<24→j<24→(Bk.ker (lab24 g) i j↔i % g=j % g):=fun g i j hi hj=>by unfold Bk.ker; rw [lab24_at hi,lab24_at hj]
 refine lab24_is h1 (fun i j h=>?_) (fun i j hi hj e=>?_)
 ·obtain ⟨⟨q1,q2⟩,q3⟩:=h
  refine ⟨⟨q1,q2⟩,dv24_dvd ?_⟩;rw [key _ _ _ q1 q2,key _ _ _ q1 q2] at q3;exact q3
 ·have st:∀ i,i<24→Bk.BR 1 (img [cyl 24]) (Bk.both 24 (lab24 a) (lab24 b)) i ((i+Nat.gcd a b) % 24):=fun i hi=>by
   obtain ⟨k,hk,e1,e2⟩:=h2 i hi;have hj:(i+Nat.gcd a b) % 24<24:=Nat.mod_lt _ (by decide);exact .trans (.base ⟨⟨hi,hk⟩,.inl ((key a i k hi hk).2 e1)⟩) (.base ⟨⟨hk,hj⟩,.inr ((key b k _ hk hj).2 e2)⟩)
  obtain ⟨t,_,e⟩:=dv24_step _ h1 i hi j hj e;have:=base24_walks st hi t
  rwa [e] at this
theorem rcb24 (y:List Nat):y∈dv24.map lab24↔Bk.RcB 24 1 (img [cyl 24]) y:=by
 constructor
 ·intro h
  obtain ⟨g,hg,rfl⟩:=List.mem_map.1 h
  by_cases e:g=24
  ·rw [e]; exact .first first24
  ·have hg2:g<24∧Nat.gcd g 24=g:=by
    have:∀ g∈dv24,g≠24→g<24∧Nat.gcd g 24=g:=by decide +kernel
    exact this g hg e
   have:=Bk.RcB.base (img_lt gg24) first24 hg2.1 (base24 hg2.1)
   rwa [hg2.2] at this
 ·intro h
  induction h with
  | first h=>rw [h.uniq first24]; exact List.mem_map.2 ⟨24,by decide,rfl⟩
  | @join x b y p hx hp hb hy ih =>
   obtain ⟨a,ha,rfl⟩:=List.mem_map.1 ih;rw [hb.uniq (base24 hp)] at hy;obtain ⟨h1,_⟩:=dv24_gcd p hp;rw [hy.uniq (join24 ha h1)];exact List.mem_map.2 ⟨_,(dv24_meet a ha _ h1).1,rfl⟩
theorem cy24_all:Bk.AllB 24 1 (img [cyl 24]) (dv24.map lab24):=⟨by decide +kernel,rcb24⟩
theorem cy24_asc:AscL (dv24.map lab24):=by unfold AscL; decide +kernel

theorem Hvcl0 (args:Array Value) (w:World):(callFunc 97 args).run Tryz.prog w=.ok (.enter 97 args) w:=by kernel_rfl
theorem Hvcl1 (args:Array Value) (w:World):(callFunc 20 args).run Tryz.prog w=.ok (.enter 20 args) w:=by kernel_rfl
def TvPost (d:Int) (ll:List (List Int)) (w:World) (e:Ending) (w':World):Prop :=
 Below w.heap.size w w'∧((Ma.gchk d ll≠0∧e=.returned (.tuple #[.int .i64 0,.int .i64 (Ma.gchk d ll)])) ∨
  (Ma.gchk d ll=0∧∃ (D:Nat) (gs:List (List Nat)) (k:Nat) (O:List (List Nat)) (R:List (List (List Nat))),d=D∧ll=gs.map Ma.ofN∧e=.returned (.tuple #[.int .i64 ((k:Nat):Int),.int .i64 0])∧Cm.IsChain D (Cm.Gr D (·∈gs)) O R∧TrIs O D k))
theorem Transitivity_any (gv:Value) (d:Int) (ll:List (List Int)) (w:World) (h:Rg.Rows w gv ll) :
  Calls Tryz.prog 20 #[.agg #[.int .i64 d,gv]] w (TvPost d ll w):=by
 obtain ⟨ga,gc,rfl,hga,hba⟩:=GI.enter (d) h;have K:=ι hba;have G0:=ι hga;clear h hga hba;obtain ⟨ck,hck⟩:∃ c,Hid (Ma.gchk d ll=c):=⟨_,ι rfl⟩
 go_enter Tryz.func20,Tryz.ntmps20
 go_upto_region 0 with (fail);refine wp_region_list ?_;refine Rg.lr 1 (Rg.exec_box _ _ rfl rfl) ?_;go_frame;refine Rg.la 2 (.int .i64 0) ?_;go_frame;refine Rg.la 3 (.int .i64 0) ?_;go_frame;obtain ⟨gb,hgb⟩:∃ gb,w.heap.size=gb:=⟨_,rfl⟩;rw [hgb] at G0 ⊢;clear hgb;generalize w.alloc (.cells #[.int .i64 d,.slice ga ll.length gc] 24)=w0 at *
 by_cases h0:ck=0
 case neg =>
  skip
  go_upto_region 1 with (fail);refine wp_region_list ?_;refine Rg.lr 8 (Rg.exec_load (v:=.agg #[.int .i64 d,.slice ga ll.length gc]) _ _ rfl ⟨gb,0,none⟩ rfl (run_loadG G0.out.c0 G0.out.c1)) ?_;go_frame;refine list_ask (some 9) rfl rfl _ _ (exec_fn1 97 _ _ rfl rfl (Hvcl0 _ _)) ?_;refine (chOf_any _ d ll w0 G0.out.rows).mono ?_;rintro e1 w1 ⟨cv,rfl,hcv,hb⟩;obtain ⟨e9,oa,on,oc,ra,rn,rc,rfl⟩:=hcv.shape;rw [hck.out];clear hcv;refine ⟨_,rfl,?_⟩;go_frame;replace G0:=ι (G0.out.below hb);replace K:=ι (Rg.acc K.out hb);clear hb;refine Rg.lm 7 (.tuple #[(.agg #[.int .i64 e9,.slice oa on oc,.slice ra rn rc]),.int .i64 ck]) ?_;go_frame;refine Rg.lr 10 (exec_extract (v:=(.agg #[.int .i64 e9,.slice oa on oc,.slice ra rn rc])) _ _ rfl rfl rfl) ?_;go_frame;refine Rg.lr 11 (exec_extract (v:=.int .i64 ck) _ _ rfl rfl rfl) ?_;go_frame;refine Rg.lr 4 (exec_allocC rfl) ?_;go_frame
  refine Rg.list_skip none rfl rfl (Rg.exec_store _ _ _ rfl _ rfl _ rfl (run_storeC _ _ _ _ _ _ _ (Tri.new w1 (.int .i64 0) (.slice none 0 0) (.slice none 0 0)))) ?_;go_frame;have htn:=(Tri.new w1 (.int .i64 0) (.slice none 0 0) (.slice none 0 0)).set (.int .i64 e9) (.slice oa on oc) (.slice ra rn rc);have hb:=((((Below.refl w1.heap.size w1).alloc (Nat.le_refl _) (.cells #[.int .i64 0,.slice none 0 0,.slice none 0 0] 54)).setCell (p:=⟨w1.heap.size,0,none⟩) (Nat.le_refl _) (.int .i64 e9)).setCell (p:=⟨w1.heap.size,1,none⟩) (Nat.le_refl _) (.slice oa on oc)).setCell (p:=⟨w1.heap.size,2,none⟩) (Nat.le_refl _) (.slice ra rn rc);generalize (((w1.alloc (.cells #[.int .i64 0,.slice none 0 0,.slice none 0 0] 54)).setCell ⟨w1.heap.size,0,none⟩ (.int .i64 e9)).setCell ⟨w1.heap.size,1,none⟩ (.slice oa on oc)).setCell ⟨w1.heap.size,2,none⟩ (.slice ra rn rc)=w2 at *;replace G0:=ι (G0.out.below hb)
  replace K:=ι (Rg.acc K.out hb);clear hb;have T1:=ι htn;clear htn;refine Rg.la 5 (.int .i64 ck) ?_;go_frame;go_upto_region 2 with (fail);refine wp_region_list ?_;refine Rg.lm 12 (.int .i64 ck) ?_;go_frame;refine Rg.lr 13 (exec_bin (R:=.bool true) .neq _ _ _ rfl rfl rfl (b_neqB _ (decide_eq_true h0))) ?_;go_frame;go_upto_region 3 with (fail);refine wp_region_list ?_;refine Rg.lm 14 (.int .i64 ck) ?_;go_frame;refine Rg.la 2 (.int .i64 ((0:Nat):Int)) ?_;go_frame;refine Rg.la 3 (.int .i64 ck) ?_;go_frame;go_wp2
  go_ret2
  exact ⟨K.out,.inl ⟨by rw [hck.out]; exact h0,by rw [hck.out]; rfl⟩⟩
 case pos =>
  have HZ:=ι (hck.out.trans h0);obtain ⟨D,gs,hD,hgs,hgg,hD1,hD2,hgl⟩:=gchk_ok HZ.out;subst hD hgs;clear hgg h0 hck;go_upto_region 1 with (fail);refine wp_region_list ?_;refine Rg.lr 8 (Rg.exec_load (v:=.agg #[.int .i64 ((D:Nat):Int),.slice ga (gs.map Ma.ofN).length gc]) _ _ rfl ⟨gb,0,none⟩ rfl (run_loadG G0.out.c0 G0.out.c1)) ?_;go_frame;refine list_ask (some 9) rfl rfl _ _ (exec_fn1 97 _ _ rfl rfl (Hvcl0 _ _)) ?_;refine (chOf_gs HZ.out G0.out.rows).mono ?_;rintro e1 w1 ⟨ov,rv,O,R,rfl,hce,hci,hb⟩;obtain ⟨oa,oc,rfl,_⟩:=hce.1.shape;obtain ⟨ra,rc,rfl⟩:=hce.2.shape;obtain ⟨rn,hrn⟩:∃ n,(R.map (List.map Ma.ofN)).length=n:=⟨_,rfl⟩;obtain ⟨on,hon⟩:∃ n,Hid ((O.map Ma.ofN).length=n):=⟨_,ι rfl⟩;rw [hrn,hon.out] at hce ⊢;have HCI:=ι hci;clear hci hrn;refine ⟨_,rfl,?_⟩;go_frame;replace G0:=ι (G0.out.below hb);replace K:=ι (Rg.acc K.out hb)
  clear hb;have E1:=ι hce;refine Rg.lm 7 (.tuple #[(.agg #[.int .i64 ((D:Nat):Int),.slice oa on oc,.slice ra rn rc]),.int .i64 0]) ?_;go_frame;refine Rg.lr 10 (exec_extract (v:=(.agg #[.int .i64 ((D:Nat):Int),.slice oa on oc,.slice ra rn rc])) _ _ rfl rfl rfl) ?_;go_frame;refine Rg.lr 11 (exec_extract (v:=.int .i64 0) _ _ rfl rfl rfl) ?_;go_frame;refine Rg.lr 4 (exec_allocC rfl) ?_;go_frame;refine Rg.list_skip none rfl rfl (Rg.exec_store _ _ _ rfl _ rfl _ rfl (run_storeC _ _ _ _ _ _ _ (Tri.new w1 (.int .i64 0) (.slice none 0 0) (.slice none 0 0)))) ?_;go_frame;have htn:=(Tri.new w1 (.int .i64 0) (.slice none 0 0) (.slice none 0 0)).set (.int .i64 ((D:Nat):Int)) (.slice oa on oc) (.slice ra rn rc);have hb:=((((Below.refl w1.heap.size w1).alloc (Nat.le_refl _) (.cells #[.int .i64 0,.slice none 0 0,.slice none 0 0] 54)).setCell (p:=⟨w1.heap.size,0,none⟩) (Nat.le_refl _) (.int .i64 ((D:Nat):Int))).setCell (p:=⟨w1.heap.size,1,none⟩) (Nat.le_refl _) (.slice oa on oc)).setCell (p:=⟨w1.heap.size,2,none⟩) (Nat.le_refl _) (.slice ra rn rc)
  generalize (((w1.alloc (.cells #[.int .i64 0,.slice none 0 0,.slice none 0 0] 54)).setCell ⟨w1.heap.size,0,none⟩ (.int .i64 ((D:Nat):Int))).setCell ⟨w1.heap.size,1,none⟩ (.slice oa on oc)).setCell ⟨w1.heap.size,2,none⟩ (.slice ra rn rc)=w2 at *;replace G0:=ι (G0.out.below hb);replace E1:=ι (E1.out.below hb);replace K:=ι (Rg.acc K.out hb);clear hb;have T1:=ι htn;clear htn;refine Rg.la 5 (.int .i64 0) ?_;go_frame;clear hce;go_upto_region 2 with (fail);refine wp_region_list ?_;refine Rg.lm 12 (.int .i64 0) ?_;go_frame;refine Rg.lr 13 (exec_bin (R:=.bool false) .neq _ _ _ rfl rfl rfl (b_neqB _ (decide_eq_false (fun e=>e rfl)))) ?_;go_frame;go_upto_region 4 with (fail);refine wp_region_list ?_;refine Rg.la 6 (.int .i64 ((0:Nat):Int)) ?_;go_frame;obtain ⟨cb,hcb⟩:∃ b,w1.heap.size=b:=⟨_,rfl⟩;rw [hcb] at T1 ⊢;clear hcb;have HOL:=ι HCI.out.lenO
  have hon2:on=D:=by rw [← hon.out,List.length_map]; exact HOL.out
  subst hon2
  obtain ⟨ob,oo,rfl,hor⟩:∃ b o,oa=some ⟨b,o,none⟩∧∀ k,k<on→∃ ua uc,CL w2 b (o+k) (.slice ua (O.getD k []).length uc):=by
   obtain ⟨oa',oc',hsh,-,-,-,har⟩:=E1.out.1.shape;simp only [Value.slice.injEq] at hsh;obtain ⟨rfl,-,rfl⟩:=hsh;obtain ⟨bb,o,e,hbb,hx⟩:=har (by rw [hon.out]; omega);refine ⟨bb,o,e,fun k hk=>?_⟩;obtain ⟨u,h1,h2⟩:=hx k (by rw [hon.out]; exact hk)
   have hk2:k<O.length:=by rw [HOL.out]; exact hk
   rw [List.getElem_map] at h2;obtain ⟨ua,uc,rfl,-⟩:=Rg.NP.shape (show Rg.NP _ u O[k] from h2);refine ⟨ua,uc,?_,hbb⟩;rw [List.getD_eq_getElem?_getD,List.getElem?_eq_getElem hk2,Option.getD_some];exact h1
  have HOR:=ι hor;have HWB:=ι K.out;have GB:=ι G0.out;have TB:=ι T1.out;have KK:=ι (Below.refl w2.heap.size w2);have AL:=ι (show ∀ i,i<0→(O.getD i []).length=on - i from fun i hi=>absurd hi (Nat.not_lt_zero _));clear hor K G0 T1 E1;go_wp2
  go_loopw [6] (fun kv wr=>∃ k:Nat,kv=.int .i64 ((k:Nat):Int)∧k≤on∧Hid (∀ i,i<k→(O.getD i []).length=on - i)∧Hid (Below w2.heap.size w2 wr)) (fun kv _=>on - (intOf kv).toNat)
  case atStart=>exact ⟨0,rfl,Nat.zero_le _,AL,KK⟩
  case round =>
   clear AL KK;obtain ⟨k,rfl,hk,AL,KK⟩:=hrel;generalize wr=wd at *;have G0:=ι (GB.out.below KK.out);have T1:=ι (TB.out.below KK.out)
   by_cases hkD:k<on
   case neg =>
    have hkD2:k=on:=by omega
    go_upto_region 5 with (fail);have hV0:Below wd.heap.size wd wd.drew:=(Below.refl _ _).drew;replace G0:=ι (G0.out.below hV0);replace T1:=ι (T1.out.below hV0);replace KK:=ι (Rg.acc KK.out hV0);clear hV0;refine Rg.Any.begin (S:=Rg.Both 16 (fun _=>True) (fun W=>Below wd.drew.heap.size wd.drew W)) mix ?_;generalize wd.drew=w41 at *;have hS:∀ (l:Array Bool) W,Below w41.heap.size w41 W→Rg.Both 16 (fun _=>True) (fun W=>Below w41.heap.size w41 W) l W:=fun l W h=>⟨.inr trivial,h⟩;have hI:Below w41.heap.size w41 w41:=Below.refl _ _;refine Rg.tm 0 16 (.int .i64 ((k:Nat):Int)) 15 (hS _ _ hI) ?_;go_frame;refine Rg.tg 1 16 (.pointer (some ⟨gb,0,none⟩)) 16 rfl rfl (.inl ⟨rfl,fun w _=>exec_fieldG0 _ rfl rfl⟩) (hS _ _ hI) ?_;go_frame;refine Rg.tg 2 16 (.int .i64 ((on:Nat):Int)) 17 rfl rfl (Rg.yields_cell _ _ rfl rfl ⟨gb,0,none⟩ rfl (fun W hW=>run_loadInt ((Below.cell (p:=⟨gb,0,none⟩) hW G0.out.lt).trans G0.out.c0))) (hS _ _ hI) ?_;go_frame
    refine Rg.tg 3 16 (.bool false) 18 rfl rfl (.inl ⟨rfl,fun w _=>exec_bin (R:=.bool false) .lss _ _ _ rfl rfl rfl (b_lss _ (decide_eq_false (by omega)))⟩) (hS _ _ hI) ?_;go_frame;refine Rg.tm 4 16 (.bool false) 19 (hS _ _ hI) ?_;go_frame;refine Rg.tg 5 16 (undef) 20 rfl rfl (.inr ⟨rfl,rfl⟩) (hS _ _ hI) ?_;go_frame;refine Rg.tg 6 16 (undef) 21 rfl rfl (.inr ⟨rfl,rfl⟩) (hS _ _ hI) ?_;go_frame;refine Rg.tg 7 16 (undef) 22 rfl rfl (.inr ⟨rfl,rfl⟩) (hS _ _ hI) ?_;go_frame;refine Rg.tg 8 16 (undef) 23 rfl rfl (.inr ⟨rfl,rfl⟩) (hS _ _ hI) ?_;go_frame;refine Rg.tg 9 16 (undef) 24 rfl rfl (.inr ⟨rfl,rfl⟩) (hS _ _ hI) ?_;go_frame;refine Rg.tg 10 16 (undef) 25 rfl rfl (.inr ⟨rfl,rfl⟩) (hS _ _ hI) ?_;go_frame;refine Rg.tg 11 16 (undef) 26 rfl rfl (.inr ⟨rfl,rfl⟩) (hS _ _ hI) ?_;go_frame;refine Rg.tg 12 16 (undef) 27 rfl rfl (.inr ⟨rfl,rfl⟩) (hS _ _ hI) ?_;go_frame;refine Rg.tg 13 16 (undef) 28 rfl rfl (.inr ⟨rfl,rfl⟩) (hS _ _ hI) ?_;go_frame
    refine Rg.tg 14 16 (undef) 29 rfl rfl (.inr ⟨rfl,rfl⟩) (hS _ _ hI) ?_;go_frame;refine Rg.tg 15 16 (undef) 30 rfl rfl (.inr ⟨rfl,rfl⟩) (hS _ _ hI) ?_;go_frame;refine Rg.Any.one (i:=16) (by kernel_rfl) (Rg.Any.run (some 31) rfl rfl rfl (exec_pickF (v:=.bool false) _ _ _ rfl rfl rfl) (hS _ _ hI) ?_);go_frame;refine Rg.Any.done (by kernel_rfl) ?_ _;clear hS hI;go_upto_region 7 with (fail);refine wp_region_list ?_;refine Rg.lm 34 (.int .i64 ((k:Nat):Int)) ?_;go_frame;refine Rg.la 2 (.int .i64 ((k:Nat):Int)) ?_;go_frame;refine Rg.la 3 (.int .i64 ((0:Nat):Int)) ?_;go_frame;go_wp2
    go_ret2
    exact ⟨Rg.acc HWB.out KK.out,.inr ⟨HZ.out,on,gs,k,O,R,rfl,rfl,rfl,HCI.out,hk,AL.out,.inl hkD2⟩⟩
   case pos =>
    obtain ⟨ua,uc,hcu⟩:=HOR.out k hkD;obtain ⟨m,hm⟩:∃ n,Hid ((O.getD k []).length=n):=⟨_,ι rfl⟩;rw [hm.out] at hcu;have CU:=ι (hcu.up KK.out);have HKD:=ι hkD;clear hcu
    by_cases hmk:m=on - k
    case pos =>
     have AL2:=ι (show ∀ i,i<k+1→(O.getD i []).length=on - i from fun i hi=>by
      by_cases e:i=k
      ·rw [e,hm.out]; exact hmk
      ·exact AL.out i (by omega))
     go_upto_region 5 with (fail);have hV0:Below wd.heap.size wd wd.drew:=(Below.refl _ _).drew;replace G0:=ι (G0.out.below hV0);replace T1:=ι (T1.out.below hV0);replace CU:=ι (CU.out.below hV0);replace KK:=ι (Rg.acc KK.out hV0);clear hV0;refine Rg.Any.begin (S:=Rg.Both 16 (fun _=>True) (fun W=>Below wd.drew.heap.size wd.drew W)) mix ?_;generalize wd.drew=w61 at *;have hS:∀ (l:Array Bool) W,Below w61.heap.size w61 W→Rg.Both 16 (fun _=>True) (fun W=>Below w61.heap.size w61 W) l W:=fun l W h=>⟨.inr trivial,h⟩;have hI:Below w61.heap.size w61 w61:=Below.refl _ _;refine Rg.tm 0 16 (.int .i64 ((k:Nat):Int)) 15 (hS _ _ hI) ?_;go_frame;refine Rg.tg 1 16 (.pointer (some ⟨gb,0,none⟩)) 16 rfl rfl (.inl ⟨rfl,fun w _=>exec_fieldG0 _ rfl rfl⟩) (hS _ _ hI) ?_;go_frame;refine Rg.tg 2 16 (.int .i64 ((on:Nat):Int)) 17 rfl rfl (Rg.yields_cell _ _ rfl rfl ⟨gb,0,none⟩ rfl (fun W hW=>run_loadInt ((Below.cell (p:=⟨gb,0,none⟩) hW G0.out.lt).trans G0.out.c0))) (hS _ _ hI) ?_;go_frame
     refine Rg.tg 3 16 (.bool true) 18 rfl rfl (.inl ⟨rfl,fun w _=>exec_bin (R:=.bool true) .lss _ _ _ rfl rfl rfl (b_lss _ (decide_eq_true (by omega)))⟩) (hS _ _ hI) ?_;go_frame;refine Rg.tm 4 16 (.bool true) 19 (hS _ _ hI) ?_;go_frame;refine Rg.tg 5 16 (.pointer (some ⟨cb,1,none⟩)) 20 rfl rfl (.inl ⟨rfl,fun w _=>exec_field _ rfl rfl (chF1 _ _)⟩) (hS _ _ hI) ?_;go_frame;refine Rg.tg 6 16 (.slice (some ⟨ob,oo,none⟩) on oc) 21 rfl rfl (Rg.yields_cell _ _ rfl rfl ⟨cb,1,none⟩ rfl (fun W hW=>Rg.run_loadSl _ _ Tryz.underlying27 ((Below.cell (p:=⟨cb,1,none⟩) hW T1.out.lt).trans T1.out.c1))) (hS _ _ hI) ?_;go_frame;refine Rg.tm 7 16 (.int .i64 ((k:Nat):Int)) 22 (hS _ _ hI) ?_;go_frame;refine Rg.tg 8 16 (.pointer (some ⟨ob,oo+k,none⟩)) 23 rfl rfl (Rg.yields_index slIntss _ _ rfl rfl ob (oo) (on) oc (k) rfl rfl hkD) (hS _ _ hI) ?_;go_frame;refine Rg.tg 9 16 (.slice ua m uc) 24 rfl rfl (Rg.yields_cell _ _ rfl rfl ⟨ob,oo+k,none⟩ rfl (fun W hW=>Rg.run_loadSl _ _ Tryz.underlying36 ((Below.cell (p:=⟨ob,oo+k,none⟩) hW CU.out.lt).trans CU.out.cell))) (hS _ _ hI) ?_;go_frame
     refine Rg.tg 10 16 (.int .i64 ((m:Nat):Int)) 25 rfl rfl (.inl ⟨rfl,fun w _=>exec_len _ _ _ rfl Tryz.underlying36 _ _ _ rfl⟩) (hS _ _ hI) ?_;go_frame;refine Rg.tg 11 16 (.pointer (some ⟨gb,0,none⟩)) 26 rfl rfl (.inl ⟨rfl,fun w _=>exec_fieldG0 _ rfl rfl⟩) (hS _ _ hI) ?_;go_frame;refine Rg.tg 12 16 (.int .i64 ((on:Nat):Int)) 27 rfl rfl (Rg.yields_cell _ _ rfl rfl ⟨gb,0,none⟩ rfl (fun W hW=>run_loadInt ((Below.cell (p:=⟨gb,0,none⟩) hW G0.out.lt).trans G0.out.c0))) (hS _ _ hI) ?_;go_frame;refine Rg.tm 13 16 (.int .i64 ((k:Nat):Int)) 28 (hS _ _ hI) ?_;go_frame;refine Rg.tg 14 16 (.int .i64 ((on:Int) - (k:Int))) 29 rfl rfl (.inl ⟨rfl,fun w _=>exec_bin (R:=.int .i64 ((on:Int) - (k:Int))) .sub _ _ _ rfl rfl rfl (b_sub _ (by omega) (by omega))⟩) (hS _ _ hI) ?_;go_frame;refine Rg.tg 15 16 (.bool true) 30 rfl rfl (.inl ⟨rfl,fun w _=>exec_bin (R:=.bool true) .eql _ _ _ rfl rfl rfl (b_eql _ (decide_eq_true (by omega)))⟩) (hS _ _ hI) ?_;go_frame
     refine Rg.Any.one (i:=16) (by kernel_rfl) (Rg.Any.run (some 31) rfl rfl rfl (exec_pickT (v:=.bool true) _ _ _ rfl rfl rfl) (hS _ _ hI) ?_);go_frame;refine Rg.Any.done (by kernel_rfl) ?_ _;clear hS hI;go_upto_region 6 with (fail);refine wp_region_list ?_;refine Rg.lm 32 (.int .i64 ((k:Nat):Int)) ?_;go_frame;refine Rg.lr 33 (exec_bin (R:=.int .i64 (((k+1):Nat):Int)) .add _ _ _ rfl rfl rfl (b_add _ (by omega) (by omega))) ?_;go_frame;refine Rg.la 6 (.int .i64 (((k+1):Nat):Int)) ?_;go_frame;go_wp2
     go_roundw
     case rel=>exact ⟨k+1,by go_num,HKD.out,AL2,KK⟩
     case measure=>simp [intOf]; have:=HKD.out; omega
    case neg =>
     skip
     go_upto_region 5 with (fail);have hV0:Below wd.heap.size wd wd.drew:=(Below.refl _ _).drew;replace G0:=ι (G0.out.below hV0);replace T1:=ι (T1.out.below hV0);replace CU:=ι (CU.out.below hV0);replace KK:=ι (Rg.acc KK.out hV0);clear hV0;refine Rg.Any.begin (S:=Rg.Both 16 (fun _=>True) (fun W=>Below wd.drew.heap.size wd.drew W)) mix ?_;generalize wd.drew=w81 at *;have hS:∀ (l:Array Bool) W,Below w81.heap.size w81 W→Rg.Both 16 (fun _=>True) (fun W=>Below w81.heap.size w81 W) l W:=fun l W h=>⟨.inr trivial,h⟩;have hI:Below w81.heap.size w81 w81:=Below.refl _ _;refine Rg.tm 0 16 (.int .i64 ((k:Nat):Int)) 15 (hS _ _ hI) ?_;go_frame;refine Rg.tg 1 16 (.pointer (some ⟨gb,0,none⟩)) 16 rfl rfl (.inl ⟨rfl,fun w _=>exec_fieldG0 _ rfl rfl⟩) (hS _ _ hI) ?_;go_frame;refine Rg.tg 2 16 (.int .i64 ((on:Nat):Int)) 17 rfl rfl (Rg.yields_cell _ _ rfl rfl ⟨gb,0,none⟩ rfl (fun W hW=>run_loadInt ((Below.cell (p:=⟨gb,0,none⟩) hW G0.out.lt).trans G0.out.c0))) (hS _ _ hI) ?_;go_frame
     refine Rg.tg 3 16 (.bool true) 18 rfl rfl (.inl ⟨rfl,fun w _=>exec_bin (R:=.bool true) .lss _ _ _ rfl rfl rfl (b_lss _ (decide_eq_true (by omega)))⟩) (hS _ _ hI) ?_;go_frame;refine Rg.tm 4 16 (.bool true) 19 (hS _ _ hI) ?_;go_frame;refine Rg.tg 5 16 (.pointer (some ⟨cb,1,none⟩)) 20 rfl rfl (.inl ⟨rfl,fun w _=>exec_field _ rfl rfl (chF1 _ _)⟩) (hS _ _ hI) ?_;go_frame;refine Rg.tg 6 16 (.slice (some ⟨ob,oo,none⟩) on oc) 21 rfl rfl (Rg.yields_cell _ _ rfl rfl ⟨cb,1,none⟩ rfl (fun W hW=>Rg.run_loadSl _ _ Tryz.underlying27 ((Below.cell (p:=⟨cb,1,none⟩) hW T1.out.lt).trans T1.out.c1))) (hS _ _ hI) ?_;go_frame;refine Rg.tm 7 16 (.int .i64 ((k:Nat):Int)) 22 (hS _ _ hI) ?_;go_frame;refine Rg.tg 8 16 (.pointer (some ⟨ob,oo+k,none⟩)) 23 rfl rfl (Rg.yields_index slIntss _ _ rfl rfl ob (oo) (on) oc (k) rfl rfl hkD) (hS _ _ hI) ?_;go_frame;refine Rg.tg 9 16 (.slice ua m uc) 24 rfl rfl (Rg.yields_cell _ _ rfl rfl ⟨ob,oo+k,none⟩ rfl (fun W hW=>Rg.run_loadSl _ _ Tryz.underlying36 ((Below.cell (p:=⟨ob,oo+k,none⟩) hW CU.out.lt).trans CU.out.cell))) (hS _ _ hI) ?_;go_frame
     refine Rg.tg 10 16 (.int .i64 ((m:Nat):Int)) 25 rfl rfl (.inl ⟨rfl,fun w _=>exec_len _ _ _ rfl Tryz.underlying36 _ _ _ rfl⟩) (hS _ _ hI) ?_;go_frame;refine Rg.tg 11 16 (.pointer (some ⟨gb,0,none⟩)) 26 rfl rfl (.inl ⟨rfl,fun w _=>exec_fieldG0 _ rfl rfl⟩) (hS _ _ hI) ?_;go_frame;refine Rg.tg 12 16 (.int .i64 ((on:Nat):Int)) 27 rfl rfl (Rg.yields_cell _ _ rfl rfl ⟨gb,0,none⟩ rfl (fun W hW=>run_loadInt ((Below.cell (p:=⟨gb,0,none⟩) hW G0.out.lt).trans G0.out.c0))) (hS _ _ hI) ?_;go_frame;refine Rg.tm 13 16 (.int .i64 ((k:Nat):Int)) 28 (hS _ _ hI) ?_;go_frame;refine Rg.tg 14 16 (.int .i64 ((on:Int) - (k:Int))) 29 rfl rfl (.inl ⟨rfl,fun w _=>exec_bin (R:=.int .i64 ((on:Int) - (k:Int))) .sub _ _ _ rfl rfl rfl (b_sub _ (by omega) (by omega))⟩) (hS _ _ hI) ?_;go_frame;refine Rg.tg 15 16 (.bool false) 30 rfl rfl (.inl ⟨rfl,fun w _=>exec_bin (R:=.bool false) .eql _ _ _ rfl rfl rfl (b_eql _ (decide_eq_false (by omega)))⟩) (hS _ _ hI) ?_;go_frame
     refine Rg.Any.one (i:=16) (by kernel_rfl) (Rg.Any.run (some 31) rfl rfl rfl (exec_pickT (v:=.bool false) _ _ _ rfl rfl rfl) (hS _ _ hI) ?_);go_frame;refine Rg.Any.done (by kernel_rfl) ?_ _;clear hS hI;go_upto_region 7 with (fail);refine wp_region_list ?_;refine Rg.lm 34 (.int .i64 ((k:Nat):Int)) ?_;go_frame;refine Rg.la 2 (.int .i64 ((k:Nat):Int)) ?_;go_frame;refine Rg.la 3 (.int .i64 ((0:Nat):Int)) ?_;go_frame;go_wp2
     go_ret2
     exact ⟨Rg.acc HWB.out KK.out,.inr ⟨HZ.out,on,gs,k,O,R,rfl,rfl,rfl,HCI.out,hk,AL.out,.inr (by rw [hm.out]; exact hmk)⟩⟩
theorem degrees12_any (gv:Value) (D:Nat) (gs:List (List Nat)) (want:Nat) (w:World) (h:Rg.Rows w gv (gs.map Ma.ofN)) (hz:Ma.gchk ((D:Nat):Int) (gs.map Ma.ofN)=0) (ht:∀ O R,Cm.IsChain D (Cm.Gr D (·∈gs)) O R→TrIs O D want) :
  Calls Tryz.prog 98 #[.agg #[.int .i64 ((D:Nat):Int),gv],.int .i64 ((want:Nat):Int)] w fun e w'=>e=.returned (.bool true)∧Below w.heap.size w w':=by
 have HZ:=ι hz
 have HT:=ι (fun (e:Ending) (w1 w2:World) (hp:TvPost ((D:Nat):Int) (gs.map Ma.ofN) w1 e w2)=>show e=.returned (.tuple #[.int .i64 ((want:Nat):Int),.int .i64 0])∧Below w1.heap.size w1 w2 from by
  obtain ⟨hb,⟨h0,_⟩ | ⟨_,D',gs',k,O,R,h1,h2,rfl,h3,h4⟩⟩:=hp
  ·exact absurd hz h0
  ·obtain rfl:D=D':=by omega
   obtain rfl:=map_ofN_inj h2;rw [h4.uniq (ht O R h3)]
   exact ⟨rfl,hb⟩)
 clear hz ht;obtain ⟨ga,gc,rfl,hga,hba⟩:=GI.enter (((D:Nat):Int)) h;have K:=ι hba;have G0:=ι hga;clear h hga hba
 go_enter Tryz.func98,Tryz.ntmps98
 go_upto_region 0 with (fail);refine wp_region_list ?_;refine Rg.lr 2 (Rg.exec_box _ _ rfl rfl) ?_;go_frame;refine Rg.la 4 (.bool false) ?_;go_frame;obtain ⟨gb,hgb⟩:∃ gb,w.heap.size=gb:=⟨_,rfl⟩;rw [hgb] at G0 ⊢;clear hgb;generalize w.alloc (.cells #[.int .i64 ((D:Nat):Int),.slice ga (gs.map Ma.ofN).length gc] 24)=w0 at *;go_upto_region 1 with (fail);refine wp_region_list ?_;refine Rg.lr 8 (Rg.exec_load (v:=.agg #[.int .i64 ((D:Nat):Int),.slice ga (gs.map Ma.ofN).length gc]) _ _ rfl ⟨gb,0,none⟩ rfl (run_loadG G0.out.c0 G0.out.c1)) ?_;go_frame;refine list_ask (some 9) rfl rfl _ _ (exec_fn1 20 _ _ rfl rfl (Hvcl1 _ _)) ?_;refine ((Transitivity_any _ ((D:Nat):Int) (gs.map Ma.ofN) w0 G0.out.rows).mono (fun e w9 hp=>HT.out e w0 w9 hp)).mono ?_;rintro e1 w1 ⟨rfl,hb⟩;refine ⟨_,rfl,?_⟩;go_frame;replace G0:=ι (G0.out.below hb);replace K:=ι (Rg.acc K.out hb);clear hb
 refine Rg.lm 7 (.tuple #[.int .i64 ((want:Nat):Int),.int .i64 0]) ?_;go_frame;refine Rg.lr 10 (exec_extract (v:=.int .i64 ((want:Nat):Int)) _ _ rfl rfl rfl) ?_;go_frame;refine Rg.lr 11 (exec_extract (v:=.int .i64 0) _ _ rfl rfl rfl) ?_;go_frame;refine Rg.la 5 (.int .i64 ((want:Nat):Int)) ?_;go_frame;refine Rg.la 6 (.int .i64 0) ?_;go_frame;go_upto_region 2 with (fail);refine wp_region_list ?_;refine Rg.lm 12 (.int .i64 ((want:Nat):Int)) ?_;go_frame;refine Rg.lm 13 (.int .i64 ((want:Nat):Int)) ?_;go_frame;refine Rg.lr 14 (exec_bin (R:=.bool true) .eql _ _ _ rfl rfl rfl (b_eql _ (decide_eq_true rfl))) ?_;go_frame;refine Rg.lm 15 (.bool true) ?_;go_frame;refine listW_run (some 16) rfl rfl (Rg.xm (.int .i64 0) _ rfl rfl) ?_;go_frame;refine listW_run (some 17) rfl rfl (exec_eqI _ _ rfl rfl rfl rfl) ?_;go_frame;refine Rg.lr 18 (exec_pickT (v:=.bool true) _ _ _ rfl rfl rfl) ?_;go_frame
 refine Rg.la 4 (.bool true) ?_;go_frame;go_wp2;go_ret;exact ⟨rfl,K.out⟩

theorem OwZ.fiw {F:Nat→Prop} {w w':World} {v:Value} {M:List Nat} (h:OwZ w.heap.size w' v (Ma.ofN M)) (hl:M.length≤1000):FiW (Fup F w w') w' v M :=
 ⟨Rg.FVals.of (Rg.Vals.of_row h.row (by rw [Ma.len_ofN]; omega)) (fun k e=>.inr (h.lt k e))⟩
structure RdR (w:World) (v:Value) (T:List (List Nat)):Prop where
 rows:Rg.Rows w v (T.map Ma.ofN)
theorem RdR.below {w w':World} {v:Value} {T:List (List Nat)} (h:RdR w v T) (hb:Below w.heap.size w w'):RdR w' v T:=⟨h.rows.below hb⟩
theorem RdR.at {w:World} {v:Value} {T:List (List Nat)} (h:RdR w v T) {i:Nat} (hi:i<T.length):∃ b o c u,v=.slice (some ⟨b,o,none⟩) T.length c∧CL w b (o+i) u∧Rg.NP w u (T[i]):=by
 obtain ⟨us,⟨a,c,e,_,_,_,h5⟩,h2,h3⟩:=h.rows
 have hl:us.length=T.length:=by rw [h2,List.length_map]
 obtain ⟨b,o,e1,e2,e3⟩:=h5 (by omega);subst e1;have h6:=h3 i (by omega) (by rw [List.length_map]; exact hi);rw [List.getElem_map] at h6;exact ⟨b,o,c,us[i],by rw [e,hl],⟨e3 i (by omega),e2⟩,h6⟩
theorem RdR.sh {w:World} {v:Value} {T:List (List Nat)} (h:RdR w v T):∃ a c,v=.slice a T.length c:=by
 obtain ⟨us,⟨a,c,e,_⟩,h2,_⟩:=h.rows;exact ⟨a,c,by rw [e,h2,List.length_map]⟩

theorem Hwcl5 (args:Array Value) (w:World):(callFunc 98 args).run Tryz.prog w=.ok (.enter 98 args) w:=by kernel_rfl
theorem Hwcl7 (args:Array Value) (w:World):(callFunc 29 args).run Tryz.prog w=.ok (.enter 29 args) w:=by kernel_rfl
theorem Hwcl8 (args:Array Value) (w:World):(callFunc 99 args).run Tryz.prog w=.ok (.enter 99 args) w:=by kernel_rfl
theorem Hwcl9 (args:Array Value) (w:World):(callFunc 100 args).run Tryz.prog w=.ok (.enter 100 args) w:=by kernel_rfl
theorem Hwcl10 (args:Array Value) (w:World):(callFunc 15 args).run Tryz.prog w=.ok (.enter 15 args) w:=by kernel_rfl
theorem All_13 {D:Nat} {gs:List (List Nat)} (hz:Ma.gchk ((D:Nat):Int) (gs.map Ma.ofN)=0) (ht:trn gs D=false) (gv:Value) (w:World) (h:Rg.Rows w gv (gs.map Ma.ofN)) :
  Calls Tryz.prog 16 #[.agg #[.int .i64 ((D:Nat):Int),gv]] w fun e w'=>e=.returned (.tuple #[.slice none 0 0,.int .i64 13])∧Below w.heap.size w w':=by
 refine (All_any gv _ _ w h (fun D' gs' h1 h2 hg h3 _ T hn hr=>?_)).mono ?_
 ·obtain rfl:D=D':=by omega
  obtain rfl:=map_ofN_inj h2;rw [ht] at h3; cases h3
 ·rintro e w' ⟨hb,⟨h0,_⟩ | ⟨_,D',gs',h1,h2,⟨h3,rfl⟩ | ⟨h3,_⟩ | ⟨h3,_⟩⟩⟩
  ·exact absurd hz h0
  ·exact ⟨rfl,hb⟩
  all_goals
   obtain rfl:D=D':=by omega
   obtain rfl:=map_ofN_inj h2;rw [ht] at h3; cases h3
theorem All_5 {D:Nat} {gs:List (List Nat)} (hz:Ma.gchk ((D:Nat):Int) (gs.map Ma.ofN)=0) (ht:trn gs D=true) (hD:24<D) (gv:Value) (w:World) (h:Rg.Rows w gv (gs.map Ma.ofN)) :
  Calls Tryz.prog 16 #[.agg #[.int .i64 ((D:Nat):Int),gv]] w fun e w'=>e=.returned (.tuple #[.slice none 0 0,.int .i64 5])∧Below w.heap.size w w':=by
 refine (All_any gv _ _ w h (fun D' gs' h1 h2 hg h3 h4 T hn hr=>by omega)).mono ?_
 rintro e w' ⟨hb,⟨h0,_⟩ | ⟨_,D',gs',h1,h2,⟨h3,_⟩ | ⟨_,_,rfl⟩ | ⟨_,h3,_⟩⟩⟩
 ·exact absurd hz h0
 ·obtain rfl:D=D':=by omega
  obtain rfl:=map_ofN_inj h2;rw [ht] at h3; cases h3
 ·exact ⟨rfl,hb⟩
 ·omega
theorem All_yes' {D:Nat} {gs:List (List Nat)} {T0:List (List Nat)} {n:Nat} (hz:Ma.gchk ((D:Nat):Int) (gs.map Ma.ofN)=0) (ht:trn gs D=true) (hD:D≤24) (hT:Bk.AllB D gs.length (img gs) T0) (ha:AscL T0) (hf:T0.length=n) (hn:n≤200000) (gv:Value) (w:World) (h:Rg.Rows w gv (gs.map Ma.ofN)) :
  Calls Tryz.prog 16 #[.agg #[.int .i64 ((D:Nat):Int),gv]] w fun e w'=>∃ a c,e=.returned (.tuple #[.slice a n c,.int .i64 0])∧Below w.heap.size w w':=by
 refine (All_yes hz ht hD hT ha (by omega) gv w h).mono ?_;rintro e w' ⟨v,rfl,hr,hb⟩;obtain ⟨a,c,rfl,-⟩:=hr.shape;rw [List.length_map,hf];exact ⟨a,c,rfl,hb⟩
theorem Is_b {D:Nat} {gs:List (List Nat)} {l:List Nat} {b:Bool} (hz:Ma.gchk ((D:Nat):Int) (gs.map Ma.ofN)=0) (hl:l.length=D) (hr:Bk.rgc l 0) (hb:syB D gs l=b) (gv lv:Value) (w:World) (h:Rg.Rows w gv (gs.map Ma.ofN)) (hv:Rg.Ints w lv (Ma.ofN l)) (hD:D≤64) :
  Calls Tryz.prog 29 #[.agg #[.int .i64 ((D:Nat):Int),gv],lv] w fun e w'=>e=.returned (.tuple #[.bool b,.int .i64 0])∧Below w.heap.size w w':=by
 have hp:paC ((D:Nat):Int) (gs.map Ma.ofN) (Ma.ofN l)=0:=paC_z hz ⟨by rw [Ma.len_ofN,hl],l,rfl,hr⟩;refine (Is12_any gv _ _ lv _ w h hv (by rw [Ma.len_ofN]; omega)).mono ?_;rintro e w' ⟨b',rfl,h1,h2⟩;rw [hp,decide_eq_true rfl,Bool.true_and,isBl_eq,hb] at h1;rw [h1,hp]; exact ⟨rfl,h2⟩
theorem Is_3 {D:Nat} {gs:List (List Nat)} {l:List Int} (hz:Ma.gchk ((D:Nat):Int) (gs.map Ma.ofN)=0) (hl:l.length≤100) (hr:¬ Bk.okP l) (gv lv:Value) (w:World) (h:Rg.Rows w gv (gs.map Ma.ofN)) (hv:Rg.Ints w lv l) :
  Calls Tryz.prog 29 #[.agg #[.int .i64 ((D:Nat):Int),gv],lv] w fun e w'=>e=.returned (.tuple #[.bool false,.int .i64 3])∧Below w.heap.size w w':=by
 have hp:paC ((D:Nat):Int) (gs.map Ma.ofN) l=3:=paC_f hz (fun h=>hr h.2);refine (Is12_any gv _ _ lv _ w h hv hl).mono ?_;rintro e w' ⟨b',rfl,h1,h2⟩;rw [hp,decide_eq_false (by decide),Bool.false_and] at h1;rw [h1,hp]; exact ⟨rfl,h2⟩
theorem Ac_0 {D m:Nat} {gs:List (List Nat)} {l:List Nat} {rr:List (List Int)} (hz:Ma.gchk ((D:Nat):Int) (gs.map Ma.ofN)=0) (hl:l.length=D) (hr:Bk.rgc l 0) (hb:syB D gs l=true) (hm:Bk.mny l 0=m) (hrr:(gs.map (Bk.acB l)).map Ma.ofN=rr) (gv lv:Value) (w:World) (h:Rg.Rows w gv (gs.map Ma.ofN)) (hv:Rg.Ints w lv (Ma.ofN l)) (hD:D≤64) :
  Calls Tryz.prog 99 #[.agg #[.int .i64 ((D:Nat):Int),gv],lv] w fun e w'=>∃ a n c,e=.returned (.tuple #[.agg #[.int .i64 ((m:Nat):Int),.slice a n c],.int .i64 0])∧Rg.Rows w' (.slice a n c) rr∧Below w.heap.size w w':=by
 have hp:paC ((D:Nat):Int) (gs.map Ma.ofN) (Ma.ofN l)=0:=paC_z hz ⟨by rw [Ma.len_ofN,hl],l,rfl,hr⟩;have hc:acC ((D:Nat):Int) (gs.map Ma.ofN) (Ma.ofN l)=0:=acC_z hp (by rw [isBl_eq]; exact hb);refine (Action12_any gv _ _ lv _ w h hv (by rw [Ma.len_ofN]; omega)).mono ?_;rintro e w' ⟨v,rfl,ha,h2⟩
 rcases ha with ⟨h0,_⟩ | ⟨_,gs',L',a,c,h3,h4,rfl,h5⟩
 ·exact absurd hc h0
 ·obtain rfl:=map_ofN_inj h3
  have e2:l=L':=by
   have:=congrArg (List.map Int.toNat) h4
   rwa [toN1,toN1] at this
  subst e2;rw [hrr] at h5;rw [hm,hc];exact ⟨a,_,c,rfl,h5,h2⟩
theorem Ac_13 {D:Nat} {gs:List (List Nat)} {l:List Nat} (hz:Ma.gchk ((D:Nat):Int) (gs.map Ma.ofN)=0) (hl:l.length=D) (hr:Bk.rgc l 0) (hb:syB D gs l=false) (gv lv:Value) (w:World) (h:Rg.Rows w gv (gs.map Ma.ofN)) (hv:Rg.Ints w lv (Ma.ofN l)) (hD:D≤64) :
  Calls Tryz.prog 99 #[.agg #[.int .i64 ((D:Nat):Int),gv],lv] w fun e w'=>e=.returned (.tuple #[.agg #[.int .i64 0,.slice none 0 0],.int .i64 13])∧Below w.heap.size w w':=by
 have hp:paC ((D:Nat):Int) (gs.map Ma.ofN) (Ma.ofN l)=0:=paC_z hz ⟨by rw [Ma.len_ofN,hl],l,rfl,hr⟩;have hc:acC ((D:Nat):Int) (gs.map Ma.ofN) (Ma.ofN l)=13:=acC_f hp (by rw [isBl_eq]; exact hb);refine (Action12_any gv _ _ lv _ w h hv (by rw [Ma.len_ofN]; omega)).mono ?_;rintro e w' ⟨v,rfl,ha,h2⟩
 rcases ha with ⟨_,rfl⟩ | ⟨h0,_⟩
 ·rw [hc]; exact ⟨rfl,h2⟩
 ·rw [hc] at h0; cases h0
theorem np1010:¬ Bk.okP [1,0,1,0]:=Bk.RtI.bad (Bk.RtI.start _) (by decide) (.inr (by decide))
theorem rows2_new {w:World} {u1 u2:Value} {l1 l2:List Int} (h1:Rg.Ints w u1 l1) (h2:Rg.Ints w u2 l2) (t:TypeId):Rg.Rows (w.alloc (.cells #[u1,u2] t)) (.slice (some ⟨w.heap.size,0,none⟩) 2 2) [l1,l2]:=by
 refine ⟨[u1,u2],⟨_,2,rfl,Nat.le_refl _,by show 2≤_; unfold maxLen; omega,by simp [Rg.big],fun _=>⟨w.heap.size,0,rfl,by simp,fun i hi=>?_⟩⟩,rfl,fun i a b=>?_⟩
 ·rw [Nat.zero_add,Rg.cellNew]
  match i,hi with
  | 0,_=>rfl
  | 1,_=>rfl
 ·match i,a,b with
  | 0,_,_=>exact h1.below ((Below.refl _ _).alloc (Nat.le_refl _) _)
  | 1,_,_=>exact h2.below ((Below.refl _ _).alloc (Nat.le_refl _) _)
theorem BlockKnown_any (w:World):Calls Tryz.prog 23 #[] w fun e w'=>e=.returned (.bool true)∧Below w.heap.size w w':=by
 have K:=ι (Below.refl w.heap.size w)
 go_enter Tryz.func23,Tryz.ntmps23
 go_upto_region 0 with (fail);refine wp_region_list ?_;refine Rg.la 0 (.bool false) ?_;go_frame;go_upto_region 1 with (fail);refine wp_region_list ?_;refine list_ask (some 30) rfl rfl _ _ (exec_fn1 81 _ _ rfl rfl (Hpcl0 _ _)) ?_;refine (cyclic_any 4 w (by decide) (by decide)).mono ?_;rintro e1 w1 ⟨a1,c1,rfl,hg1,hb⟩;refine ⟨_,rfl,?_⟩;go_frame;replace K:=ι (Rg.acc K.out hb);clear hb;have G1:=ι hg1;obtain ⟨X2,q1,q2,q3,hb⟩:=grp_new w1 ((4:Nat):Int) a1 1 c1;refine Rg.lr 1 (exec_allocG rfl) ?_;go_frame;refine Rg.list_skip none rfl rfl (Rg.exec_store _ _ _ rfl _ rfl _ rfl q1) ?_;go_frame;clear q1;clear hg1;replace G1:=ι (G1.out.below hb);replace K:=ι (Rg.acc K.out hb);clear hb;have B2:=ι q2;have D2:=ι q3;clear q2 q3;go_upto_region 2 with (fail);refine wp_region_list ?_;refine Rg.lr 31 (Rg.exec_load (v:=.agg #[.int .i64 ((4:Nat):Int),.slice a1 1 c1]) _ _ rfl ⟨w1.heap.size,0,none⟩ rfl (run_loadG B2.out.cell D2.out.cell)) ?_;go_frame
 have hnew:=ints_new X2 3 [0,0,0,0] (by decide);refine Rg.lr 32 (exec_flat _ _ 4 _ rfl [0,0,0,0] Tryz.underlying36 szInt zInt rfl (by decide) (by decide) rfl) ?_;go_frame;have hb:=(Below.refl X2.heap.size X2).alloc (Nat.le_refl _) (.cells (([0,0,0,0]:List Int).map (Value.int .i64)).toArray 3);generalize X2.alloc (.cells (([0,0,0,0]:List Int).map (Value.int .i64)).toArray 3)=w2 at *;replace G1:=ι (G1.out.below hb);replace B2:=ι (B2.out.below hb);replace D2:=ι (D2.out.below hb);replace K:=ι (Rg.acc K.out hb);clear hb;have W1:=ι hnew;clear hnew;refine list_ask (some 33) rfl rfl _ _ (exec_fn4 83 _ _ _ _ _ rfl rfl rfl rfl rfl (Hpcl4 _ _)) ?_;refine (least12_any _ 4 [cyl 4] 0 1 [0,0,0,0] _ w2 G1.out cy4_g (by decide) (by decide) cy4_01 W1.out).mono ?_;rintro e1 w3 ⟨rfl,hb⟩;refine ⟨_,rfl,?_⟩;go_frame;replace G1:=ι (G1.out.below hb);replace B2:=ι (B2.out.below hb)
 replace D2:=ι (D2.out.below hb);replace W1:=ι (W1.out.below hb);replace K:=ι (Rg.acc K.out hb);clear hb;refine Rg.lm 34 (.bool true) ?_;go_frame;refine listW_run (some 35) rfl rfl (Rg.exec_load (v:=.agg #[.int .i64 ((4:Nat):Int),.slice a1 1 c1]) _ _ rfl ⟨w1.heap.size,0,none⟩ rfl (run_loadG B2.out.cell D2.out.cell)) ?_;go_frame;have hnew:=ints_new w3 3 [0,1,2,3] (by decide);refine listW_run (some 36) rfl rfl (exec_flat _ _ 4 _ rfl [0,1,2,3] Tryz.underlying36 szInt zInt rfl (by decide) (by decide) rfl) ?_;go_frame;have hb:=(Below.refl w3.heap.size w3).alloc (Nat.le_refl _) (.cells (([0,1,2,3]:List Int).map (Value.int .i64)).toArray 3);generalize w3.alloc (.cells (([0,1,2,3]:List Int).map (Value.int .i64)).toArray 3)=w4 at *;replace G1:=ι (G1.out.below hb);replace B2:=ι (B2.out.below hb);replace D2:=ι (D2.out.below hb);replace W1:=ι (W1.out.below hb)
 replace K:=ι (Rg.acc K.out hb);clear hb;have W2:=ι hnew;clear hnew;refine listW_ask (some 37) rfl rfl _ _ (exec_fn4 83 _ _ _ _ _ rfl rfl rfl rfl rfl (Hpcl4 _ _)) ?_;refine (least12_any _ 4 [cyl 4] 1 1 [0,1,2,3] _ w4 G1.out cy4_g (by decide) (by decide) cy4_11 W2.out).mono ?_;rintro e1 w5 ⟨rfl,hb⟩;refine ⟨_,rfl,?_⟩;go_frame;replace G1:=ι (G1.out.below hb);replace B2:=ι (B2.out.below hb);replace D2:=ι (D2.out.below hb);replace W1:=ι (W1.out.below hb);replace W2:=ι (W2.out.below hb);replace K:=ι (Rg.acc K.out hb);clear hb;refine Rg.lr 38 (exec_pickT (v:=.bool true) _ _ _ rfl rfl rfl) ?_;go_frame;refine Rg.la 2 (.bool true) ?_;go_frame;clear W1;clear W2;go_upto_region 3 with (fail);refine wp_region_list ?_;refine list_ask (some 40) rfl rfl _ _ (exec_fn1 81 _ _ rfl rfl (Hpcl0 _ _)) ?_;refine (cyclic_any 6 w5 (by decide) (by decide)).mono ?_;rintro e1 w6 ⟨a3,c3,rfl,hg3,hb⟩
 refine ⟨_,rfl,?_⟩;go_frame;replace G1:=ι (G1.out.below hb);replace B2:=ι (B2.out.below hb);replace D2:=ι (D2.out.below hb);replace K:=ι (Rg.acc K.out hb);clear hb;have G3:=ι hg3;refine list_ask (some 41) rfl rfl _ _ (exec_fn1 16 _ _ rfl rfl (Hpcl1 _ _)) ?_;refine (All_yes' (T0:=sys6) (n:=4) cy6_g cy6_t (by decide) cy6_all cy6_asc rfl (by decide) _ w6 G3.out).mono ?_;rintro e1 w7 ⟨b3,e3,rfl,hb⟩;refine ⟨_,rfl,?_⟩;go_frame;replace G1:=ι (G1.out.below hb);replace B2:=ι (B2.out.below hb);replace D2:=ι (D2.out.below hb);replace G3:=ι (G3.out.below hb);replace K:=ι (Rg.acc K.out hb);clear hb;refine Rg.lm 39 (.tuple #[.slice b3 4 e3,.int .i64 0]) ?_;go_frame;refine Rg.lr 42 (exec_extract (v:=.slice b3 4 e3) _ _ rfl rfl rfl) ?_;go_frame;refine Rg.lr 43 (exec_extract (v:=.int .i64 0) _ _ rfl rfl rfl) ?_;go_frame;refine Rg.la 3 (.slice b3 4 e3) ?_;go_frame;refine Rg.la 4 (.int .i64 0) ?_;go_frame
 clear hg3;clear G3;go_upto_region 4 with (fail);refine wp_region_list ?_;refine list_ask (some 45) rfl rfl _ _ (exec_fn0 84 _ rfl (Hpcl5 _ _)) ?_;refine (two12_any w7).mono ?_;rintro e1 w8 ⟨a4,m4,c4,rfl,hg4,hb⟩;refine ⟨_,rfl,?_⟩;go_frame;replace G1:=ι (G1.out.below hb);replace B2:=ι (B2.out.below hb);replace D2:=ι (D2.out.below hb);replace K:=ι (Rg.acc K.out hb);clear hb;have G4:=ι hg4.rows;refine list_ask (some 46) rfl rfl _ _ (exec_fn1 16 _ _ rfl rfl (Hpcl1 _ _)) ?_;refine (All_13 (D:=4) (gs:=gs2) gs2_g gs2_t _ w8 G4.out).mono ?_;rintro e1 w9 ⟨rfl,hb⟩;refine ⟨_,rfl,?_⟩;go_frame;replace G1:=ι (G1.out.below hb);replace B2:=ι (B2.out.below hb);replace D2:=ι (D2.out.below hb);replace G4:=ι (G4.out.below hb);replace K:=ι (Rg.acc K.out hb);clear hb;refine Rg.lm 44 (.tuple #[.slice none 0 0,.int .i64 13]) ?_;go_frame;refine Rg.lr 47 (exec_extract (v:=.slice none 0 0) _ _ rfl rfl rfl) ?_;go_frame
 refine Rg.lr 48 (exec_extract (v:=.int .i64 13) _ _ rfl rfl rfl) ?_;go_frame;refine Rg.la 5 (.slice none 0 0) ?_;go_frame;refine Rg.la 6 (.int .i64 13) ?_;go_frame;clear hg4;clear G4;go_upto_region 5 with (fail);refine wp_region_list ?_;refine Rg.lr 50 (Rg.exec_load (v:=.agg #[.int .i64 ((4:Nat):Int),.slice a1 1 c1]) _ _ rfl ⟨w1.heap.size,0,none⟩ rfl (run_loadG B2.out.cell D2.out.cell)) ?_;go_frame;refine list_ask (some 51) rfl rfl _ _ (exec_fn1 18 _ _ rfl rfl (Hpcl3 _ _)) ?_;refine (Prim_b (D:=4) (gs:=[cyl 4]) (b:=false) cy4_g cy4_np _ w9 G1.out).mono ?_;rintro e1 w10 ⟨rfl,hb⟩;refine ⟨_,rfl,?_⟩;go_frame;replace G1:=ι (G1.out.below hb);replace B2:=ι (B2.out.below hb);replace D2:=ι (D2.out.below hb);replace K:=ι (Rg.acc K.out hb);clear hb;refine Rg.lm 49 (.tuple #[.bool false,.int .i64 0]) ?_;go_frame;refine Rg.lr 52 (exec_extract (v:=.bool false) _ _ rfl rfl rfl) ?_;go_frame
 refine Rg.lr 53 (exec_extract (v:=.int .i64 0) _ _ rfl rfl rfl) ?_;go_frame;refine Rg.la 7 (.bool false) ?_;go_frame;refine Rg.la 8 (.int .i64 0) ?_;go_frame;go_upto_region 6 with (fail);refine wp_region_list ?_;refine list_ask (some 55) rfl rfl _ _ (exec_fn0 84 _ rfl (Hpcl5 _ _)) ?_;refine (two12_any w10).mono ?_;rintro e1 w11 ⟨a5,m5,c5,rfl,hg5,hb⟩;refine ⟨_,rfl,?_⟩;go_frame;replace G1:=ι (G1.out.below hb);replace B2:=ι (B2.out.below hb);replace D2:=ι (D2.out.below hb);replace K:=ι (Rg.acc K.out hb);clear hb;have G5:=ι hg5.rows;refine list_ask (some 56) rfl rfl _ _ (exec_fn1 18 _ _ rfl rfl (Hpcl3 _ _)) ?_;refine (Prim_b (D:=4) (gs:=gs2) (b:=false) gs2_g gs2_np _ w11 G5.out).mono ?_;rintro e1 w12 ⟨rfl,hb⟩;refine ⟨_,rfl,?_⟩;go_frame;replace G1:=ι (G1.out.below hb);replace B2:=ι (B2.out.below hb);replace D2:=ι (D2.out.below hb);replace G5:=ι (G5.out.below hb)
 replace K:=ι (Rg.acc K.out hb);clear hb;refine Rg.lm 54 (.tuple #[.bool false,.int .i64 0]) ?_;go_frame;refine Rg.lr 57 (exec_extract (v:=.bool false) _ _ rfl rfl rfl) ?_;go_frame;refine Rg.lr 58 (exec_extract (v:=.int .i64 0) _ _ rfl rfl rfl) ?_;go_frame;refine Rg.la 9 (.bool false) ?_;go_frame;refine Rg.la 10 (.int .i64 0) ?_;go_frame;clear hg5;clear G5;go_upto_region 7 with (fail);refine wp_region_list ?_;refine Rg.lm 59 (.slice b3 4 e3) ?_;go_frame;refine Rg.lr 60 (exec_len _ _ _ rfl Tryz.underlying27 _ _ _ rfl) ?_;go_frame;refine Rg.lr 61 (exec_bin (R:=.bool true) .eql _ _ _ rfl rfl rfl (b_eql _ (decide_eq_true rfl))) ?_;go_frame;refine Rg.lm 62 (.bool true) ?_;go_frame;refine listW_run (some 63) rfl rfl (Rg.xm (.int .i64 0) _ rfl rfl) ?_;go_frame;refine listW_run (some 64) rfl rfl (exec_eqI _ _ rfl rfl rfl rfl) ?_;go_frame;refine Rg.lr 65 (exec_pickT (v:=.bool true) _ _ _ rfl rfl rfl) ?_;go_frame
 refine Rg.lm 66 (.bool true) ?_;go_frame;refine listW_run (some 67) rfl rfl (Rg.xm (.int .i64 13) _ rfl rfl) ?_;go_frame;refine listW_run (some 68) rfl rfl (exec_bin (R:=.bool true) .eql _ _ _ rfl rfl rfl (b_eql _ (decide_eq_true rfl))) ?_;go_frame;refine Rg.lr 69 (exec_pickT (v:=.bool true) _ _ _ rfl rfl rfl) ?_;go_frame;refine Rg.lm 70 (.bool true) ?_;go_frame;refine listW_run (some 71) rfl rfl (Rg.xm (.bool false) _ rfl rfl) ?_;go_frame;refine listW_run (some 72) rfl rfl (exec_not _ _ false rfl rfl) ?_;go_frame;refine Rg.lr 73 (exec_pickT (v:=.bool true) _ _ _ rfl rfl rfl) ?_;go_frame;refine Rg.lm 74 (.bool true) ?_;go_frame;refine listW_run (some 75) rfl rfl (Rg.xm (.int .i64 0) _ rfl rfl) ?_;go_frame;refine listW_run (some 76) rfl rfl (exec_eqI _ _ rfl rfl rfl rfl) ?_;go_frame;refine Rg.lr 77 (exec_pickT (v:=.bool true) _ _ _ rfl rfl rfl) ?_;go_frame;refine Rg.lm 78 (.bool true) ?_;go_frame
 refine listW_run (some 79) rfl rfl (Rg.xm (.bool false) _ rfl rfl) ?_;go_frame;refine listW_run (some 80) rfl rfl (exec_not _ _ false rfl rfl) ?_;go_frame;refine Rg.lr 81 (exec_pickT (v:=.bool true) _ _ _ rfl rfl rfl) ?_;go_frame;refine Rg.lm 82 (.bool true) ?_;go_frame;refine listW_run (some 83) rfl rfl (Rg.xm (.int .i64 0) _ rfl rfl) ?_;go_frame;refine listW_run (some 84) rfl rfl (exec_eqI _ _ rfl rfl rfl rfl) ?_;go_frame;refine Rg.lr 85 (exec_pickT (v:=.bool true) _ _ _ rfl rfl rfl) ?_;go_frame;refine Rg.lm 86 (.bool true) ?_;go_frame;refine listW_run (some 87) rfl rfl (Rg.exec_load (v:=.agg #[.int .i64 ((4:Nat):Int),.slice a1 1 c1]) _ _ rfl ⟨w1.heap.size,0,none⟩ rfl (run_loadG B2.out.cell D2.out.cell)) ?_;go_frame;refine listW_ask (some 88) rfl rfl _ _ (exec_fn 98 _ _ _ rfl rfl rfl (Hwcl5 _ _)) ?_;refine (degrees12_any _ 4 [cyl 4] 1 w12 G1.out cy4_g (fun _ _ h=>degC4 h)).mono ?_
 rintro e1 w13 ⟨rfl,hb⟩;refine ⟨_,rfl,?_⟩;go_frame;replace G1:=ι (G1.out.below hb);replace B2:=ι (B2.out.below hb);replace D2:=ι (D2.out.below hb);replace K:=ι (Rg.acc K.out hb);clear hb;refine Rg.lr 89 (exec_pickT (v:=.bool true) _ _ _ rfl rfl rfl) ?_;go_frame;refine Rg.lm 90 (.bool true) ?_;go_frame;refine listW_ask (some 91) rfl rfl _ _ (exec_fn0 82 _ rfl (Hpcl2 _ _)) ?_;refine (four12_any w13).mono ?_;rintro e1 w14 ⟨a6,m6,c6,rfl,hg6,hb⟩;refine ⟨_,rfl,?_⟩;go_frame;replace G1:=ι (G1.out.below hb);replace B2:=ι (B2.out.below hb);replace D2:=ι (D2.out.below hb);replace K:=ι (Rg.acc K.out hb);clear hb;have G6:=ι hg6.rows;refine listW_ask (some 92) rfl rfl _ _ (exec_fn 98 _ _ _ rfl rfl rfl (Hwcl5 _ _)) ?_;refine (degrees12_any _ 4 gs4 4 w14 G6.out gs4_g (fun _ _ h=>degS4 h)).mono ?_;rintro e1 w15 ⟨rfl,hb⟩;refine ⟨_,rfl,?_⟩;go_frame;replace G1:=ι (G1.out.below hb)
 replace B2:=ι (B2.out.below hb);replace D2:=ι (D2.out.below hb);replace G6:=ι (G6.out.below hb);replace K:=ι (Rg.acc K.out hb);clear hb;refine Rg.lr 93 (exec_pickT (v:=.bool true) _ _ _ rfl rfl rfl) ?_;go_frame;refine Rg.lm 94 (.bool true) ?_;go_frame;refine listW_ask (some 95) rfl rfl _ _ (exec_fn0 84 _ rfl (Hpcl5 _ _)) ?_;refine (two12_any w15).mono ?_;rintro e1 w16 ⟨a7,m7,c7,rfl,hg7,hb⟩;refine ⟨_,rfl,?_⟩;go_frame;replace G1:=ι (G1.out.below hb);replace B2:=ι (B2.out.below hb);replace D2:=ι (D2.out.below hb);replace G6:=ι (G6.out.below hb);replace K:=ι (Rg.acc K.out hb);clear hb;have G7:=ι hg7.rows;refine listW_ask (some 96) rfl rfl _ _ (exec_fn 98 _ _ _ rfl rfl rfl (Hwcl5 _ _)) ?_;refine (degrees12_any _ 4 gs2 0 w16 G7.out gs2_g (fun _ _ h=>degV2 h)).mono ?_;rintro e1 w17 ⟨rfl,hb⟩;refine ⟨_,rfl,?_⟩;go_frame;replace G1:=ι (G1.out.below hb);replace B2:=ι (B2.out.below hb)
 replace D2:=ι (D2.out.below hb);replace G6:=ι (G6.out.below hb);replace G7:=ι (G7.out.below hb);replace K:=ι (Rg.acc K.out hb);clear hb;refine Rg.lr 97 (exec_pickT (v:=.bool true) _ _ _ rfl rfl rfl) ?_;go_frame;refine Rg.lm 98 (.bool true) ?_;go_frame;refine listW_ask (some 99) rfl rfl _ _ (exec_fn1 81 _ _ rfl rfl (Hpcl0 _ _)) ?_;refine (cyclic_any 6 w17 (by decide) (by decide)).mono ?_;rintro e1 w18 ⟨a8,c8,rfl,hg8,hb⟩;refine ⟨_,rfl,?_⟩;go_frame;replace G1:=ι (G1.out.below hb);replace B2:=ι (B2.out.below hb);replace D2:=ι (D2.out.below hb);replace G6:=ι (G6.out.below hb);replace G7:=ι (G7.out.below hb);replace K:=ι (Rg.acc K.out hb);clear hb;have G8:=ι hg8;refine listW_ask (some 100) rfl rfl _ _ (exec_fn 98 _ _ _ rfl rfl rfl (Hwcl5 _ _)) ?_;refine (degrees12_any _ 6 [cyl 6] 1 w18 G8.out cy6_g (fun _ _ h=>degC6 h)).mono ?_;rintro e1 w19 ⟨rfl,hb⟩;refine ⟨_,rfl,?_⟩
 go_frame;replace G1:=ι (G1.out.below hb);replace B2:=ι (B2.out.below hb);replace D2:=ι (D2.out.below hb);replace G6:=ι (G6.out.below hb);replace G7:=ι (G7.out.below hb);replace G8:=ι (G8.out.below hb);replace K:=ι (Rg.acc K.out hb);clear hb;refine Rg.lr 101 (exec_pickT (v:=.bool true) _ _ _ rfl rfl rfl) ?_;go_frame;refine Rg.la 11 (.bool true) ?_;go_frame;clear hg6 hg7 hg8;clear G6;clear G7;clear G8;go_upto_region 8 with (fail);refine wp_region_list ?_;refine Rg.lr 103 (Rg.exec_load (v:=.agg #[.int .i64 ((4:Nat):Int),.slice a1 1 c1]) _ _ rfl ⟨w1.heap.size,0,none⟩ rfl (run_loadG B2.out.cell D2.out.cell)) ?_;go_frame;have hnew:=ints_new w19 3 [0,1,0,1] (by decide);refine Rg.lr 104 (exec_flat _ _ 4 _ rfl [0,1,0,1] Tryz.underlying36 szInt zInt rfl (by decide) (by decide) rfl) ?_;go_frame;have hb:=(Below.refl w19.heap.size w19).alloc (Nat.le_refl _) (.cells (([0,1,0,1]:List Int).map (Value.int .i64)).toArray 3)
 generalize w19.alloc (.cells (([0,1,0,1]:List Int).map (Value.int .i64)).toArray 3)=w20 at *;replace G1:=ι (G1.out.below hb);replace B2:=ι (B2.out.below hb);replace D2:=ι (D2.out.below hb);replace K:=ι (Rg.acc K.out hb);clear hb;have W3:=ι hnew;clear hnew;refine list_ask (some 105) rfl rfl _ _ (exec_fn 29 _ _ _ rfl rfl rfl (Hwcl7 _ _)) ?_;refine (Is_b (D:=4) (gs:=[cyl 4]) (l:=[0,1,0,1]) (b:=true) cy4_g rfl (Bk.rgcB_ok (by decide +kernel)) (by decide +kernel) _ _ w20 G1.out W3.out (by decide)).mono ?_;rintro e1 w21 ⟨rfl,hb⟩;refine ⟨_,rfl,?_⟩;go_frame;replace G1:=ι (G1.out.below hb);replace B2:=ι (B2.out.below hb);replace D2:=ι (D2.out.below hb);replace W3:=ι (W3.out.below hb);replace K:=ι (Rg.acc K.out hb);clear hb;refine Rg.lm 102 (.tuple #[.bool true,.int .i64 0]) ?_;go_frame;refine Rg.lr 106 (exec_extract (v:=.bool true) _ _ rfl rfl rfl) ?_;go_frame
 refine Rg.lr 107 (exec_extract (v:=.int .i64 0) _ _ rfl rfl rfl) ?_;go_frame;refine Rg.la 12 (.bool true) ?_;go_frame;refine Rg.la 13 (.int .i64 0) ?_;go_frame;clear W3;go_upto_region 9 with (fail);refine wp_region_list ?_;refine Rg.lr 109 (Rg.exec_load (v:=.agg #[.int .i64 ((4:Nat):Int),.slice a1 1 c1]) _ _ rfl ⟨w1.heap.size,0,none⟩ rfl (run_loadG B2.out.cell D2.out.cell)) ?_;go_frame;have hnew:=ints_new w21 3 [0,0,1,1] (by decide);refine Rg.lr 110 (exec_flat _ _ 4 _ rfl [0,0,1,1] Tryz.underlying36 szInt zInt rfl (by decide) (by decide) rfl) ?_;go_frame;have hb:=(Below.refl w21.heap.size w21).alloc (Nat.le_refl _) (.cells (([0,0,1,1]:List Int).map (Value.int .i64)).toArray 3);generalize w21.alloc (.cells (([0,0,1,1]:List Int).map (Value.int .i64)).toArray 3)=w22 at *;replace G1:=ι (G1.out.below hb);replace B2:=ι (B2.out.below hb);replace D2:=ι (D2.out.below hb)
 replace K:=ι (Rg.acc K.out hb);clear hb;have W4:=ι hnew;clear hnew;refine list_ask (some 111) rfl rfl _ _ (exec_fn 29 _ _ _ rfl rfl rfl (Hwcl7 _ _)) ?_;refine (Is_b (D:=4) (gs:=[cyl 4]) (l:=[0,0,1,1]) (b:=false) cy4_g rfl (Bk.rgcB_ok (by decide +kernel)) (by decide +kernel) _ _ w22 G1.out W4.out (by decide)).mono ?_;rintro e1 w23 ⟨rfl,hb⟩;refine ⟨_,rfl,?_⟩;go_frame;replace G1:=ι (G1.out.below hb);replace B2:=ι (B2.out.below hb);replace D2:=ι (D2.out.below hb);replace W4:=ι (W4.out.below hb);replace K:=ι (Rg.acc K.out hb);clear hb;refine Rg.lm 108 (.tuple #[.bool false,.int .i64 0]) ?_;go_frame;refine Rg.lr 112 (exec_extract (v:=.bool false) _ _ rfl rfl rfl) ?_;go_frame;refine Rg.lr 113 (exec_extract (v:=.int .i64 0) _ _ rfl rfl rfl) ?_;go_frame;refine Rg.la 14 (.bool false) ?_;go_frame;refine Rg.la 15 (.int .i64 0) ?_;go_frame;clear W4;go_upto_region 10 with (fail)
 refine wp_region_list ?_;refine Rg.lr 115 (Rg.exec_load (v:=.agg #[.int .i64 ((4:Nat):Int),.slice a1 1 c1]) _ _ rfl ⟨w1.heap.size,0,none⟩ rfl (run_loadG B2.out.cell D2.out.cell)) ?_;go_frame;have hnew:=ints_new w23 3 [1,0,1,0] (by decide);refine Rg.lr 116 (exec_flat _ _ 4 _ rfl [1,0,1,0] Tryz.underlying36 szInt zInt rfl (by decide) (by decide) rfl) ?_;go_frame;have hb:=(Below.refl w23.heap.size w23).alloc (Nat.le_refl _) (.cells (([1,0,1,0]:List Int).map (Value.int .i64)).toArray 3);generalize w23.alloc (.cells (([1,0,1,0]:List Int).map (Value.int .i64)).toArray 3)=w24 at *;replace G1:=ι (G1.out.below hb);replace B2:=ι (B2.out.below hb);replace D2:=ι (D2.out.below hb);replace K:=ι (Rg.acc K.out hb);clear hb;have W5:=ι hnew;clear hnew;refine list_ask (some 117) rfl rfl _ _ (exec_fn 29 _ _ _ rfl rfl rfl (Hwcl7 _ _)) ?_;refine (Is_3 (D:=4) (gs:=[cyl 4]) cy4_g (by decide) np1010 _ _ w24 G1.out W5.out).mono ?_
 rintro e1 w25 ⟨rfl,hb⟩;refine ⟨_,rfl,?_⟩;go_frame;replace G1:=ι (G1.out.below hb);replace B2:=ι (B2.out.below hb);replace D2:=ι (D2.out.below hb);replace W5:=ι (W5.out.below hb);replace K:=ι (Rg.acc K.out hb);clear hb;refine Rg.lm 114 (.tuple #[.bool false,.int .i64 3]) ?_;go_frame;refine Rg.lr 118 (exec_extract (v:=.bool false) _ _ rfl rfl rfl) ?_;go_frame;refine Rg.lr 119 (exec_extract (v:=.int .i64 3) _ _ rfl rfl rfl) ?_;go_frame;refine Rg.la 16 (.bool false) ?_;go_frame;refine Rg.la 17 (.int .i64 3) ?_;go_frame;clear W5;go_upto_region 11 with (fail);refine wp_region_list ?_;refine Rg.lm 120 (.bool true) ?_;go_frame;refine Rg.lm 121 (.bool true) ?_;go_frame;refine listW_run (some 122) rfl rfl (Rg.xm (.int .i64 0) _ rfl rfl) ?_;go_frame;refine listW_run (some 123) rfl rfl (exec_eqI _ _ rfl rfl rfl rfl) ?_;go_frame;refine Rg.lr 124 (exec_pickT (v:=.bool true) _ _ _ rfl rfl rfl) ?_;go_frame
 refine Rg.lm 125 (.bool true) ?_;go_frame;refine listW_run (some 126) rfl rfl (Rg.xm (.bool false) _ rfl rfl) ?_;go_frame;refine listW_run (some 127) rfl rfl (exec_not _ _ false rfl rfl) ?_;go_frame;refine Rg.lr 128 (exec_pickT (v:=.bool true) _ _ _ rfl rfl rfl) ?_;go_frame;refine Rg.lm 129 (.bool true) ?_;go_frame;refine listW_run (some 130) rfl rfl (Rg.xm (.int .i64 0) _ rfl rfl) ?_;go_frame;refine listW_run (some 131) rfl rfl (exec_eqI _ _ rfl rfl rfl rfl) ?_;go_frame;refine Rg.lr 132 (exec_pickT (v:=.bool true) _ _ _ rfl rfl rfl) ?_;go_frame;refine Rg.lm 133 (.bool true) ?_;go_frame;refine listW_run (some 134) rfl rfl (Rg.xm (.int .i64 3) _ rfl rfl) ?_;go_frame;refine listW_run (some 135) rfl rfl (exec_eqI _ _ rfl rfl rfl rfl) ?_;go_frame;refine Rg.lr 136 (exec_pickT (v:=.bool true) _ _ _ rfl rfl rfl) ?_;go_frame;refine Rg.la 18 (.bool true) ?_;go_frame;go_upto_region 12 with (fail)
 refine wp_region_list ?_;refine Rg.lr 138 (Rg.exec_load (v:=.agg #[.int .i64 ((4:Nat):Int),.slice a1 1 c1]) _ _ rfl ⟨w1.heap.size,0,none⟩ rfl (run_loadG B2.out.cell D2.out.cell)) ?_;go_frame;have hnew:=ints_new w25 3 [0,1,0,1] (by decide);refine Rg.lr 139 (exec_flat _ _ 4 _ rfl [0,1,0,1] Tryz.underlying36 szInt zInt rfl (by decide) (by decide) rfl) ?_;go_frame;have hb:=(Below.refl w25.heap.size w25).alloc (Nat.le_refl _) (.cells (([0,1,0,1]:List Int).map (Value.int .i64)).toArray 3);generalize w25.alloc (.cells (([0,1,0,1]:List Int).map (Value.int .i64)).toArray 3)=w26 at *;replace G1:=ι (G1.out.below hb);replace B2:=ι (B2.out.below hb);replace D2:=ι (D2.out.below hb);replace K:=ι (Rg.acc K.out hb);clear hb;have W6:=ι hnew;clear hnew;refine list_ask (some 140) rfl rfl _ _ (exec_fn 99 _ _ _ rfl rfl rfl (Hwcl8 _ _)) ?_;refine (Ac_0 (D:=4) (gs:=[cyl 4]) (l:=[0,1,0,1]) (m:=2) (rr:=[[1,0]]) cy4_g rfl (Bk.rgcB_ok (by decide +kernel)) (by decide +kernel) rfl (by decide +kernel) _ _ w26 G1.out W6.out (by decide)).mono ?_
 rintro e1 w27 ⟨a9,n9,c9,rfl,hr9,hb⟩;refine ⟨_,rfl,?_⟩;go_frame;replace G1:=ι (G1.out.below hb);replace B2:=ι (B2.out.below hb);replace D2:=ι (D2.out.below hb);replace W6:=ι (W6.out.below hb);replace K:=ι (Rg.acc K.out hb);clear hb;have R9:=ι hr9;refine Rg.lm 137 (.tuple #[(.agg #[.int .i64 ((2:Nat):Int),.slice a9 n9 c9]),.int .i64 0]) ?_;go_frame;refine Rg.lr 141 (exec_extract (v:=(.agg #[.int .i64 ((2:Nat):Int),.slice a9 n9 c9])) _ _ rfl rfl rfl) ?_;go_frame;refine Rg.lr 142 (exec_extract (v:=.int .i64 0) _ _ rfl rfl rfl) ?_;go_frame;obtain ⟨X10,q1,q2,q3,hb⟩:=grp_new w27 ((2:Nat):Int) a9 n9 c9;refine Rg.lr 19 (exec_allocG rfl) ?_;go_frame;refine Rg.list_skip none rfl rfl (Rg.exec_store _ _ _ rfl _ rfl _ rfl q1) ?_;go_frame;clear q1;refine Rg.la 20 (.int .i64 0) ?_;go_frame;clear hr9;replace G1:=ι (G1.out.below hb);replace B2:=ι (B2.out.below hb)
 replace D2:=ι (D2.out.below hb);replace W6:=ι (W6.out.below hb);replace R9:=ι (R9.out.below hb);replace K:=ι (Rg.acc K.out hb);clear hb;have B10:=ι q2;have D10:=ι q3;clear q2 q3;clear W6;go_upto_region 13 with (fail);refine wp_region_list ?_;refine Rg.lr 144 (Rg.exec_load (v:=.agg #[.int .i64 ((4:Nat):Int),.slice a1 1 c1]) _ _ rfl ⟨w1.heap.size,0,none⟩ rfl (run_loadG B2.out.cell D2.out.cell)) ?_;go_frame;have hnew:=ints_new X10 3 [0,0,1,1] (by decide);refine Rg.lr 145 (exec_flat _ _ 4 _ rfl [0,0,1,1] Tryz.underlying36 szInt zInt rfl (by decide) (by decide) rfl) ?_;go_frame;have hb:=(Below.refl X10.heap.size X10).alloc (Nat.le_refl _) (.cells (([0,0,1,1]:List Int).map (Value.int .i64)).toArray 3);generalize X10.alloc (.cells (([0,0,1,1]:List Int).map (Value.int .i64)).toArray 3)=w28 at *;replace G1:=ι (G1.out.below hb);replace B2:=ι (B2.out.below hb)
 replace D2:=ι (D2.out.below hb);replace R9:=ι (R9.out.below hb);replace B10:=ι (B10.out.below hb);replace D10:=ι (D10.out.below hb);replace K:=ι (Rg.acc K.out hb);clear hb;have W7:=ι hnew;clear hnew;refine list_ask (some 146) rfl rfl _ _ (exec_fn 99 _ _ _ rfl rfl rfl (Hwcl8 _ _)) ?_;refine (Ac_13 (D:=4) (gs:=[cyl 4]) (l:=[0,0,1,1]) cy4_g rfl (Bk.rgcB_ok (by decide +kernel)) (by decide +kernel) _ _ w28 G1.out W7.out (by decide)).mono ?_;rintro e1 w29 ⟨rfl,hb⟩;refine ⟨_,rfl,?_⟩;go_frame;replace G1:=ι (G1.out.below hb);replace B2:=ι (B2.out.below hb);replace D2:=ι (D2.out.below hb);replace R9:=ι (R9.out.below hb);replace B10:=ι (B10.out.below hb);replace D10:=ι (D10.out.below hb);replace W7:=ι (W7.out.below hb);replace K:=ι (Rg.acc K.out hb);clear hb;refine Rg.lm 143 (.tuple #[(.agg #[.int .i64 0,.slice none 0 0]),.int .i64 13]) ?_;go_frame;refine Rg.lr 147 (exec_extract (v:=(.agg #[.int .i64 0,.slice none 0 0])) _ _ rfl rfl rfl) ?_;go_frame
 refine Rg.lr 148 (exec_extract (v:=.int .i64 13) _ _ rfl rfl rfl) ?_;go_frame;obtain ⟨X12,q1,q2,q3,hb⟩:=grp_new w29 0 none 0 0;refine Rg.lr 21 (exec_allocG rfl) ?_;go_frame;refine Rg.list_skip none rfl rfl (Rg.exec_store _ _ _ rfl _ rfl _ rfl q1) ?_;go_frame;clear q1;refine Rg.la 22 (.int .i64 13) ?_;go_frame;replace G1:=ι (G1.out.below hb);replace B2:=ι (B2.out.below hb);replace D2:=ι (D2.out.below hb);replace R9:=ι (R9.out.below hb);replace B10:=ι (B10.out.below hb);replace D10:=ι (D10.out.below hb);replace W7:=ι (W7.out.below hb);replace K:=ι (Rg.acc K.out hb);clear hb;have B12:=ι q2;have D12:=ι q3;clear q2 q3;clear W7;go_upto_region 14 with (fail);refine wp_region_list ?_;refine list_ask (some 150) rfl rfl _ _ (exec_fn0 84 _ rfl (Hpcl5 _ _)) ?_;refine (two12_any X12).mono ?_;rintro e1 w30 ⟨a13,m13,c13,rfl,hg13,hb⟩;refine ⟨_,rfl,?_⟩;go_frame;replace G1:=ι (G1.out.below hb)
 replace B2:=ι (B2.out.below hb);replace D2:=ι (D2.out.below hb);replace R9:=ι (R9.out.below hb);replace B10:=ι (B10.out.below hb);replace D10:=ι (D10.out.below hb);replace B12:=ι (B12.out.below hb);replace D12:=ι (D12.out.below hb);replace K:=ι (Rg.acc K.out hb);clear hb;have G13:=ι hg13.rows;have hnew:=ints_new w30 3 [0,0,1,1] (by decide);refine Rg.lr 151 (exec_flat _ _ 4 _ rfl [0,0,1,1] Tryz.underlying36 szInt zInt rfl (by decide) (by decide) rfl) ?_;go_frame;have hb:=(Below.refl w30.heap.size w30).alloc (Nat.le_refl _) (.cells (([0,0,1,1]:List Int).map (Value.int .i64)).toArray 3);generalize w30.alloc (.cells (([0,0,1,1]:List Int).map (Value.int .i64)).toArray 3)=w31 at *;replace G1:=ι (G1.out.below hb);replace B2:=ι (B2.out.below hb);replace D2:=ι (D2.out.below hb);replace R9:=ι (R9.out.below hb);replace B10:=ι (B10.out.below hb);replace D10:=ι (D10.out.below hb)
 replace B12:=ι (B12.out.below hb);replace D12:=ι (D12.out.below hb);replace G13:=ι (G13.out.below hb);replace K:=ι (Rg.acc K.out hb);clear hb;have W8:=ι hnew;clear hnew;refine list_ask (some 152) rfl rfl _ _ (exec_fn 99 _ _ _ rfl rfl rfl (Hwcl8 _ _)) ?_;refine (Ac_0 (D:=4) (gs:=gs2) (l:=[0,0,1,1]) (m:=2) (rr:=[[0,1],[0,1]]) gs2_g rfl (Bk.rgcB_ok (by decide +kernel)) (by decide +kernel) rfl (by decide +kernel) _ _ w31 G13.out W8.out (by decide)).mono ?_;rintro e1 w32 ⟨a14,n14,c14,rfl,hr14,hb⟩;refine ⟨_,rfl,?_⟩;go_frame;replace G1:=ι (G1.out.below hb);replace B2:=ι (B2.out.below hb);replace D2:=ι (D2.out.below hb);replace R9:=ι (R9.out.below hb);replace B10:=ι (B10.out.below hb);replace D10:=ι (D10.out.below hb);replace B12:=ι (B12.out.below hb);replace D12:=ι (D12.out.below hb);replace G13:=ι (G13.out.below hb);replace W8:=ι (W8.out.below hb)
 replace K:=ι (Rg.acc K.out hb);clear hb;have R14:=ι hr14;refine Rg.lm 149 (.tuple #[(.agg #[.int .i64 ((2:Nat):Int),.slice a14 n14 c14]),.int .i64 0]) ?_;go_frame;refine Rg.lr 153 (exec_extract (v:=(.agg #[.int .i64 ((2:Nat):Int),.slice a14 n14 c14])) _ _ rfl rfl rfl) ?_;go_frame;refine Rg.lr 154 (exec_extract (v:=.int .i64 0) _ _ rfl rfl rfl) ?_;go_frame;obtain ⟨X15,q1,q2,q3,hb⟩:=grp_new w32 ((2:Nat):Int) a14 n14 c14;refine Rg.lr 23 (exec_allocG rfl) ?_;go_frame;refine Rg.list_skip none rfl rfl (Rg.exec_store _ _ _ rfl _ rfl _ rfl q1) ?_;go_frame;clear q1;refine Rg.la 24 (.int .i64 0) ?_;go_frame;clear hr14 hg13;replace G1:=ι (G1.out.below hb);replace B2:=ι (B2.out.below hb);replace D2:=ι (D2.out.below hb);replace R9:=ι (R9.out.below hb);replace B10:=ι (B10.out.below hb);replace D10:=ι (D10.out.below hb);replace B12:=ι (B12.out.below hb);replace D12:=ι (D12.out.below hb)
 replace G13:=ι (G13.out.below hb);replace W8:=ι (W8.out.below hb);replace R14:=ι (R14.out.below hb);replace K:=ι (Rg.acc K.out hb);clear hb;have B15:=ι q2;have D15:=ι q3;clear q2 q3;clear W8;clear G13;go_upto_region 15 with (fail);refine wp_region_list ?_;refine Rg.lm 155 (.int .i64 0) ?_;go_frame;refine Rg.lr 156 (exec_bin (R:=.bool true) .eql _ _ _ rfl rfl rfl (b_eql _ (decide_eq_true rfl))) ?_;go_frame;refine Rg.lm 157 (.bool true) ?_;go_frame;refine listW_run (some 158) rfl rfl (Rg.exec_load (v:=.agg #[.int .i64 ((2:Nat):Int),.slice a9 n9 c9]) _ _ rfl ⟨w27.heap.size,0,none⟩ rfl (run_loadG B10.out.cell D10.out.cell)) ?_;go_frame;have hnew:=ints_new X15 3 [1,0] (by decide);refine listW_run (some 159) rfl rfl (exec_flat _ _ 2 _ rfl [1,0] Tryz.underlying51 szInt zInt rfl (by decide) (by decide) rfl) ?_;go_frame;have hb:=(Below.refl X15.heap.size X15).alloc (Nat.le_refl _) (.cells (([1,0]:List Int).map (Value.int .i64)).toArray 3)
 generalize X15.alloc (.cells (([1,0]:List Int).map (Value.int .i64)).toArray 3)=w33 at *;replace G1:=ι (G1.out.below hb);replace B2:=ι (B2.out.below hb);replace D2:=ι (D2.out.below hb);replace R9:=ι (R9.out.below hb);replace B10:=ι (B10.out.below hb);replace D10:=ι (D10.out.below hb);replace B12:=ι (B12.out.below hb);replace D12:=ι (D12.out.below hb);replace R14:=ι (R14.out.below hb);replace B15:=ι (B15.out.below hb);replace D15:=ι (D15.out.below hb);replace K:=ι (Rg.acc K.out hb);clear hb;have V1:=ι hnew;clear hnew;have hro:=Rg.Rows.one 51 V1.out;refine listW_run (some 160) rfl rfl (Rg.exec_buildSlice _ _ _ rfl (.slice (some ⟨X15.heap.size,0,none⟩) 2 2) rfl (run_build1P w33 _ ⟨_,_,_,rfl⟩)) ?_;go_frame;have hb:=(Below.refl w33.heap.size w33).alloc (Nat.le_refl _) (.cells #[.slice (some ⟨X15.heap.size,0,none⟩) 2 2] 51);generalize w33.alloc (.cells #[.slice (some ⟨X15.heap.size,0,none⟩) 2 2] 51)=w34 at *
 replace G1:=ι (G1.out.below hb);replace B2:=ι (B2.out.below hb);replace D2:=ι (D2.out.below hb);replace R9:=ι (R9.out.below hb);replace B10:=ι (B10.out.below hb);replace D10:=ι (D10.out.below hb);replace B12:=ι (B12.out.below hb);replace D12:=ι (D12.out.below hb);replace R14:=ι (R14.out.below hb);replace B15:=ι (B15.out.below hb);replace D15:=ι (D15.out.below hb);replace V1:=ι (V1.out.below hb);replace K:=ι (Rg.acc K.out hb);clear hb;have Q1:=ι hro;clear hro;refine listW_run (some 161) rfl rfl (exec_buildG (d:=2) _ _ rfl rfl rfl) ?_;go_frame;refine listW_ask (some 162) rfl rfl _ _ (exec_fn 100 _ _ _ rfl rfl rfl (Hwcl9 _ _)) ?_;refine (SameGroup_b R9.out Q1.out).mono ?_;rintro e1 w35 ⟨rfl,hb⟩;refine ⟨_,rfl,?_⟩;go_frame;replace G1:=ι (G1.out.below hb);replace B2:=ι (B2.out.below hb);replace D2:=ι (D2.out.below hb);replace R9:=ι (R9.out.below hb);replace B10:=ι (B10.out.below hb)
 replace D10:=ι (D10.out.below hb);replace B12:=ι (B12.out.below hb);replace D12:=ι (D12.out.below hb);replace R14:=ι (R14.out.below hb);replace B15:=ι (B15.out.below hb);replace D15:=ι (D15.out.below hb);replace V1:=ι (V1.out.below hb);replace Q1:=ι (Q1.out.below hb);replace K:=ι (Rg.acc K.out hb);clear hb;refine Rg.lr 163 (exec_pickT (v:=.bool true) _ _ _ rfl rfl rfl) ?_;go_frame;refine Rg.lm 164 (.bool true) ?_;go_frame;refine listW_run (some 165) rfl rfl (Rg.xm (.int .i64 13) _ rfl rfl) ?_;go_frame;refine listW_run (some 166) rfl rfl (exec_bin (R:=.bool true) .eql _ _ _ rfl rfl rfl (b_eql _ (decide_eq_true rfl))) ?_;go_frame;refine Rg.lr 167 (exec_pickT (v:=.bool true) _ _ _ rfl rfl rfl) ?_;go_frame;refine Rg.lm 168 (.bool true) ?_;go_frame;refine listW_run (some 169) rfl rfl (Rg.xm (.int .i64 0) _ rfl rfl) ?_;go_frame;refine listW_run (some 170) rfl rfl (exec_bin (R:=.bool true) .eql _ _ _ rfl rfl rfl (b_eql _ (decide_eq_true rfl))) ?_;go_frame
 refine Rg.lr 171 (exec_pickT (v:=.bool true) _ _ _ rfl rfl rfl) ?_;go_frame;refine Rg.lm 172 (.bool true) ?_;go_frame;refine listW_run (some 173) rfl rfl (Rg.exec_load (v:=.agg #[.int .i64 ((2:Nat):Int),.slice a14 n14 c14]) _ _ rfl ⟨w32.heap.size,0,none⟩ rfl (run_loadG B15.out.cell D15.out.cell)) ?_;go_frame;have hnew:=ints_new w35 3 [0,1] (by decide);refine listW_run (some 174) rfl rfl (exec_flat _ _ 2 _ rfl [0,1] Tryz.underlying51 szInt zInt rfl (by decide) (by decide) rfl) ?_;go_frame;have hb:=(Below.refl w35.heap.size w35).alloc (Nat.le_refl _) (.cells (([0,1]:List Int).map (Value.int .i64)).toArray 3);generalize w35.alloc (.cells (([0,1]:List Int).map (Value.int .i64)).toArray 3)=w36 at *;replace G1:=ι (G1.out.below hb);replace B2:=ι (B2.out.below hb);replace D2:=ι (D2.out.below hb);replace R9:=ι (R9.out.below hb);replace B10:=ι (B10.out.below hb)
 replace D10:=ι (D10.out.below hb);replace B12:=ι (B12.out.below hb);replace D12:=ι (D12.out.below hb);replace R14:=ι (R14.out.below hb);replace B15:=ι (B15.out.below hb);replace D15:=ι (D15.out.below hb);replace V1:=ι (V1.out.below hb);replace Q1:=ι (Q1.out.below hb);replace K:=ι (Rg.acc K.out hb);clear hb;have V2:=ι hnew;clear hnew;have hnew:=ints_new w36 3 [0,1] (by decide);refine listW_run (some 175) rfl rfl (exec_flat _ _ 2 _ rfl [0,1] Tryz.underlying51 szInt zInt rfl (by decide) (by decide) rfl) ?_;go_frame;have hb:=(Below.refl w36.heap.size w36).alloc (Nat.le_refl _) (.cells (([0,1]:List Int).map (Value.int .i64)).toArray 3);generalize w36.alloc (.cells (([0,1]:List Int).map (Value.int .i64)).toArray 3)=w37 at *;replace G1:=ι (G1.out.below hb);replace B2:=ι (B2.out.below hb);replace D2:=ι (D2.out.below hb);replace R9:=ι (R9.out.below hb);replace B10:=ι (B10.out.below hb)
 replace D10:=ι (D10.out.below hb);replace B12:=ι (B12.out.below hb);replace D12:=ι (D12.out.below hb);replace R14:=ι (R14.out.below hb);replace B15:=ι (B15.out.below hb);replace D15:=ι (D15.out.below hb);replace V1:=ι (V1.out.below hb);replace Q1:=ι (Q1.out.below hb);replace V2:=ι (V2.out.below hb);replace K:=ι (Rg.acc K.out hb);clear hb;have V3:=ι hnew;clear hnew;have hro:=rows2_new V2.out V3.out 51;refine listW_run (some 176) rfl rfl (exec_buildP (u1:=.slice (some ⟨w35.heap.size,0,none⟩) 2 2) (u2:=.slice (some ⟨w36.heap.size,0,none⟩) 2 2) _ _ rfl rfl rfl (run_buildP2 w37 _ _ ⟨_,_,_,rfl⟩ ⟨_,_,_,rfl⟩)) ?_;go_frame;have hb:=(Below.refl w37.heap.size w37).alloc (Nat.le_refl _) (.cells #[.slice (some ⟨w35.heap.size,0,none⟩) 2 2,.slice (some ⟨w36.heap.size,0,none⟩) 2 2] 51);generalize w37.alloc (.cells #[.slice (some ⟨w35.heap.size,0,none⟩) 2 2,.slice (some ⟨w36.heap.size,0,none⟩) 2 2] 51)=w38 at *
 replace G1:=ι (G1.out.below hb);replace B2:=ι (B2.out.below hb);replace D2:=ι (D2.out.below hb);replace R9:=ι (R9.out.below hb);replace B10:=ι (B10.out.below hb);replace D10:=ι (D10.out.below hb);replace B12:=ι (B12.out.below hb);replace D12:=ι (D12.out.below hb);replace R14:=ι (R14.out.below hb);replace B15:=ι (B15.out.below hb);replace D15:=ι (D15.out.below hb);replace V1:=ι (V1.out.below hb);replace Q1:=ι (Q1.out.below hb);replace V2:=ι (V2.out.below hb);replace V3:=ι (V3.out.below hb);replace K:=ι (Rg.acc K.out hb);clear hb;have Q2:=ι hro;clear hro;refine listW_run (some 177) rfl rfl (exec_buildG (d:=2) _ _ rfl rfl rfl) ?_;go_frame;refine listW_ask (some 178) rfl rfl _ _ (exec_fn 100 _ _ _ rfl rfl rfl (Hwcl9 _ _)) ?_;refine (SameGroup_b R14.out Q2.out).mono ?_;rintro e1 w39 ⟨rfl,hb⟩;refine ⟨_,rfl,?_⟩;go_frame;replace G1:=ι (G1.out.below hb);replace B2:=ι (B2.out.below hb)
 replace D2:=ι (D2.out.below hb);replace R9:=ι (R9.out.below hb);replace B10:=ι (B10.out.below hb);replace D10:=ι (D10.out.below hb);replace B12:=ι (B12.out.below hb);replace D12:=ι (D12.out.below hb);replace R14:=ι (R14.out.below hb);replace B15:=ι (B15.out.below hb);replace D15:=ι (D15.out.below hb);replace V1:=ι (V1.out.below hb);replace Q1:=ι (Q1.out.below hb);replace V2:=ι (V2.out.below hb);replace V3:=ι (V3.out.below hb);replace Q2:=ι (Q2.out.below hb);replace K:=ι (Rg.acc K.out hb);clear hb;refine Rg.lr 179 (exec_pickT (v:=.bool true) _ _ _ rfl rfl rfl) ?_;go_frame;refine Rg.la 25 (.bool true) ?_;go_frame;clear G1;clear B2;clear D2;clear R9;clear B10;clear D10;clear B12;clear D12;clear R14;clear B15;clear D15;clear V1;clear Q1;clear V2;clear V3;clear Q2;go_upto_region 16 with (fail);refine wp_region_list ?_;refine list_ask (some 181) rfl rfl _ _ (exec_fn1 81 _ _ rfl rfl (Hpcl0 _ _)) ?_
 refine (cyclic_any 24 w39 (by decide) (by decide)).mono ?_;rintro e1 w40 ⟨a16,c16,rfl,hg16,hb⟩;refine ⟨_,rfl,?_⟩;go_frame;replace K:=ι (Rg.acc K.out hb);clear hb;have G16:=ι hg16;refine list_ask (some 182) rfl rfl _ _ (exec_fn1 16 _ _ rfl rfl (Hpcl1 _ _)) ?_;refine (All_yes' (T0:=dv24.map lab24) (n:=8) cy24_g cy24_t (by decide) cy24_all cy24_asc rfl (by decide) _ w40 G16.out).mono ?_;rintro e1 w41 ⟨b8,e8,rfl,hb⟩;refine ⟨_,rfl,?_⟩;go_frame;replace G16:=ι (G16.out.below hb);replace K:=ι (Rg.acc K.out hb);clear hb;refine Rg.lm 180 (.tuple #[.slice b8 8 e8,.int .i64 0]) ?_;go_frame;refine Rg.lr 183 (exec_extract (v:=.slice b8 8 e8) _ _ rfl rfl rfl) ?_;go_frame;refine Rg.lr 184 (exec_extract (v:=.int .i64 0) _ _ rfl rfl rfl) ?_;go_frame;refine Rg.la 26 (.slice b8 8 e8) ?_;go_frame;refine Rg.la 27 (.int .i64 0) ?_;go_frame;clear hg16;clear G16;go_upto_region 17 with (fail)
 refine wp_region_list ?_;refine list_ask (some 186) rfl rfl _ _ (exec_fn1 81 _ _ rfl rfl (Hpcl0 _ _)) ?_;refine (cyclic_any 25 w41 (by decide) (by decide)).mono ?_;rintro e1 w42 ⟨a17,c17,rfl,hg17,hb⟩;refine ⟨_,rfl,?_⟩;go_frame;replace K:=ι (Rg.acc K.out hb);clear hb;have G17:=ι hg17;refine list_ask (some 187) rfl rfl _ _ (exec_fn1 16 _ _ rfl rfl (Hpcl1 _ _)) ?_;refine (All_5 cy25_g cy25_t (by decide) _ w42 G17.out).mono ?_;rintro e1 w43 ⟨rfl,hb⟩;refine ⟨_,rfl,?_⟩;go_frame;replace G17:=ι (G17.out.below hb);replace K:=ι (Rg.acc K.out hb);clear hb;refine Rg.lm 185 (.tuple #[.slice none 0 0,.int .i64 5]) ?_;go_frame;refine Rg.lr 188 (exec_extract (v:=.slice none 0 0) _ _ rfl rfl rfl) ?_;go_frame;refine Rg.lr 189 (exec_extract (v:=.int .i64 5) _ _ rfl rfl rfl) ?_;go_frame;refine Rg.la 28 (.slice none 0 0) ?_;go_frame;refine Rg.la 29 (.int .i64 5) ?_;go_frame;clear hg17;clear G17
 go_upto_region 18 with (fail);refine wp_region_list ?_;refine list_ask (some 190) rfl rfl _ _ (exec_fn0 15 _ rfl (Hwcl10 _ _)) ?_;refine (awake12_any w43).mono ?_;rintro e1 w44 ⟨rfl,hb⟩;refine ⟨_,rfl,?_⟩;go_frame;replace K:=ι (Rg.acc K.out hb);clear hb;refine Rg.lm 191 (.bool true) ?_;go_frame;refine listW_run (some 192) rfl rfl (Rg.xm (.bool true) _ rfl rfl) ?_;go_frame;refine Rg.lr 193 (exec_pickT (v:=.bool true) _ _ _ rfl rfl rfl) ?_;go_frame;refine Rg.lm 194 (.bool true) ?_;go_frame;refine listW_run (some 195) rfl rfl (Rg.xm (.bool true) _ rfl rfl) ?_;go_frame;refine Rg.lr 196 (exec_pickT (v:=.bool true) _ _ _ rfl rfl rfl) ?_;go_frame;refine Rg.lm 197 (.bool true) ?_;go_frame;refine listW_run (some 198) rfl rfl (Rg.xm (.bool true) _ rfl rfl) ?_;go_frame;refine Rg.lr 199 (exec_pickT (v:=.bool true) _ _ _ rfl rfl rfl) ?_;go_frame;refine Rg.lm 200 (.bool true) ?_;go_frame;refine listW_run (some 201) rfl rfl (Rg.xm (.bool true) _ rfl rfl) ?_;go_frame
 refine Rg.lr 202 (exec_pickT (v:=.bool true) _ _ _ rfl rfl rfl) ?_;go_frame;refine Rg.lm 203 (.bool true) ?_;go_frame;refine listW_run (some 204) rfl rfl (Rg.xm (.slice b8 8 e8) _ rfl rfl) ?_;go_frame;refine listW_run (some 205) rfl rfl (exec_len _ _ _ rfl Tryz.underlying27 _ _ _ rfl) ?_;go_frame;refine listW_run (some 206) rfl rfl (exec_bin (R:=.bool true) .eql _ _ _ rfl rfl rfl (b_eql _ (decide_eq_true rfl))) ?_;go_frame;refine Rg.lr 207 (exec_pickT (v:=.bool true) _ _ _ rfl rfl rfl) ?_;go_frame;refine Rg.lm 208 (.bool true) ?_;go_frame;refine listW_run (some 209) rfl rfl (Rg.xm (.int .i64 0) _ rfl rfl) ?_;go_frame;refine listW_run (some 210) rfl rfl (exec_eqI _ _ rfl rfl rfl rfl) ?_;go_frame;refine Rg.lr 211 (exec_pickT (v:=.bool true) _ _ _ rfl rfl rfl) ?_;go_frame;refine Rg.lm 212 (.bool true) ?_;go_frame;refine listW_run (some 213) rfl rfl (Rg.xm (.int .i64 5) _ rfl rfl) ?_;go_frame
 refine listW_run (some 214) rfl rfl (exec_bin (R:=.bool true) .eql _ _ _ rfl rfl rfl (b_eql _ (decide_eq_true rfl))) ?_;go_frame;refine Rg.lr 215 (exec_pickT (v:=.bool true) _ _ _ rfl rfl rfl) ?_;go_frame;refine Rg.la 0 (.bool true) ?_;go_frame;go_wp2;go_ret;exact ⟨rfl,K.out⟩

theorem AllB.uniq {n m:Nat} {f:Nat→Nat→Nat} {T T':List (List Nat)} (h:Bk.AllB n m f T) (h':Bk.AllB n m f T') (ha:AscL T) (ha':AscL T'):T.map Ma.ofN=T'.map Ma.ofN:=by
 have hp:T.Perm T':=by
  rw [List.perm_ext_iff_of_nodup h.1 h'.1];exact fun x=>(h.2 x).trans (h'.2 x).symm
 refine List.Perm.eq_of_pairwise (le:=fun a b=>lessL b a=false) ?_ ha ha' (hp.map _);intro a b _ _ h1 h2
 by_cases e:a=b
 ·exact e
 ·have:=lessL_total h2 e
  rw [h1] at this; cases this
end Go.Proofs.YthehbckogieimaaGreat
