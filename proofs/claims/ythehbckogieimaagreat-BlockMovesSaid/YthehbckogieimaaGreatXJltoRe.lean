/- Lemmas and contracts on the way to the statement; no condition of their own beyond those written. -/
import Derived.Test.YthehbckogieimaaGreatXHptoJj
import Derived.Deep.MidRow
import Derived.Deep.WholeRow
import Derived.Laws.CopyOwn
import Derived.RangeFuncWrites
import Derived.RangeFuncNested
import Derived.RangeFuncBox
import Derived.RangeFuncLeaves
import Derived.Shelf.Abstract
import Derived.OwnWalkIn
import Derived.TacticsInMore
import Derived.LoopNIn
import Derived.LoopIn
import Derived.Maps.AppendAt
import Derived.Sort.CutIn
import Derived.Deep.CutRange
import Derived.Deep.CutBlock
import Derived.IntWalk
import Derived.Great.BuildSlice
import Derived.ArgAppend
import Derived.StillTailTactics
import Derived.WalkSpells
import Derived.WalkLawsBesides
import Derived.OwnWalk
import Derived.OrdersHeld
import Derived.Deep.OwnRows
import Derived.WalkKit
import Derived.Lib.Hide
import Derived.Laws.OwnMore
import Derived.Test.YthehbckogieimaaGreatProg
import Derived.Outline
import Derived.Deep.DeepFit
import Derived.BigQuiet
import Derived.Deep.QuietTactic
import Derived.Sort.OwnSortedInts
import Derived.WideMake
import Derived.MapKept
import Derived.ChangeMaps5
import Derived.Shelf.Sort.Plain
import Derived.Lib.ConvBytes
import Derived.ChangeKeysEq
import Derived.Laws.Cells
import Derived.Laws.Rows
import Derived.Laws.Tables
import Derived.OrdersIn
import Derived.TacticsIn
import Derived.Deep.LoopGhost
import Derived.Lib.SlicesSearch
import Derived.Stop.BytesEq
import Derived.Shelf.SlSortCmp.Whole1
import Derived.Ground.SlsfProg
import Derived.Lib.SmallJoins
import Derived.Deep.Matrix
set_option linter.unusedVariables false
set_option linter.unusedSimpArgs false
set_option maxRecDepth 100000
set_option maxHeartbeats 8000000
namespace Go.Proofs.YthehbckogieimaaGreat
open Go.RowKit
open Go.Proofs
open Go.Proofs.Ob
open Go.Proofs.Cm (Gd)
attribute [local irreducible] Go.Calls Go.wpList
theorem Jlcl0 (args:Array Value) (w:World):(callFunc 23 args).run Tryz.prog w=.ok (.enter 23 args) w:=by kernel_rfl
theorem Jlcl1 (args:Array Value) (w:World):(callFunc 24 args).run Tryz.prog w=.ok (.enter 24 args) w:=by kernel_rfl
theorem Jlcl2 (args:Array Value) (w:World):(callFunc 32 args).run Tryz.prog w=.ok (.enter 32 args) w:=by kernel_rfl
theorem run_sliceHiV (w:World) (b:Addr) (n c k:Nat) (h:k≤c):(Instr.sliceAt 51 (.slice (some b) n c) none (some (.int .i64 (k:Int))) none).run Tryz.prog w=.ok (.slice (some b) k c) w:=by
 simp [Instr.sliceAt,Instr.slice,run_underlying Tryz.underlying51,Instr.sliceBounds,Instr.sliceBound,asIntOf,h,Addr.add]
theorem exec_sliceHiV {o:Oper} {a:Act} {w:World} {v r:Value} {k:Nat} (x y:Operand) (ho:o.op=.slice 51 x none (some y) none) (hx:a.eval x=v) (hy:a.eval y=.int .i64 (k:Int)) (hr:(Instr.sliceAt 51 v none (some (.int .i64 (k:Int))) none).run Tryz.prog w=.ok r w) :
  (execOp a.eval o).run Tryz.prog w=.ok (.value r) w:=by
 unfold execOp;simp only [ho,hx,hy,Sem.run_bind,Sem.run_pure,Option.map]
 first | (rw [hr]; rfl) | (erw [hr]; rfl) | simp [hr]
structure ImM (w W:World) (v:Value) (I:List (List Nat)):Prop where
 bel:Below w.heap.size w W
 row:RowJ w.heap.size (fun z=>z<w.heap.size) (fun _=>False) W v (I.map Ma.ofN)
theorem ImM.nil {w W:World} (h:Below w.heap.size w W):ImM w W (.slice none 0 0) []:=⟨h,RowJ.nil _ _ _ _ h.size⟩
theorem ImM.below {w W W':World} {v:Value} {I:List (List Nat)} (h:ImM w W v I) (hb:Below W.heap.size W W'):ImM w W' v I :=
 ⟨Rg.acc h.bel hb,h.row.kp (N:=fun _=>False) (Rg.Kp.of_below hb) (fun _ _=>id) (fun _ _=>id)⟩
theorem ImM.push {w W:World} {v u:Value} {I:List (List Nat)} {x:List Nat} (h:ImM w W v I) (hu:Rg.FI (fun z=>z<w.heap.size) W u (Ma.ofN x)) (hs:∃ a m c,u=.slice a m c) (hT:I.length<1000000) (ty:TypeId) :
  ∃ a c Y,(Builtin.append_ #[27,27] ty #[v,.slice (some ⟨W.heap.size,0,none⟩) 1 1]).run Tryz.prog (W.alloc (.cells #[u] 36))=.ok (.slice a (I.length+1) c) Y∧ImM w Y (.slice a (I.length+1) c) (I++[x]):=by
 obtain ⟨a,c,Y,r1,r2,r3⟩:=h.row.push hu hs (fun k hk=>Nat.lt_of_lt_of_le hk h.bel.size) (fun _ e=>e.elim) (by rw [List.length_map]; exact hT) ty;rw [List.length_map] at r1 r2;exact ⟨a,c,Y,r1,kp_below h.bel h.bel.size r3 (fun k e=>(h.row.lt k e).1),by rw [List.map_append]; exact r2⟩
theorem fi_take {w W:World} {b o c d n:Nat} {x:List Nat} (h:Rg.NP w (.slice (some ⟨b,o,none⟩) d c) x) (hl:x.length=d) (hd1:1≤d) (hn:n≤d) (hb:Below w.heap.size w W):Rg.FI (fun z=>z<w.heap.size) W (.slice (some ⟨b,o,none⟩) n c) (Ma.ofN (x.take n)):=by
 obtain ⟨a',c',e,h1,h2,h3,h4⟩:=h.shape
 injection e with e1 _ e3
 subst e1 e3;obtain ⟨b',o',e1,e2,e4⟩:=h4 (by omega);simp only [Option.some.injEq,Addr.mk.injEq,and_true] at e1;obtain ⟨rfl,rfl⟩:=e1
 have hlen:((Ma.ofN (x.take n)).map (Value.int .i64)).length=n:=by rw [List.length_map,Ma.len_ofN,List.length_take]; omega
 refine Rg.FI.kp (M:=fun _=>False) (w:=w) ?_ (Rg.Kp.of_below hb) (fun _ _=>id);refine ⟨_,c,by rw [hlen],by rw [hlen]; omega,h3,by rw [hlen]; omega,fun _=>⟨b,o,rfl,e2,e2,fun i hi=>?_⟩⟩;rw [hlen] at hi;rw [e4 i (by omega)];simp [Ma.ofN,List.getElem_take]
structure SeJ (I:List (List Nat)) (t:List Nat) (s:Bool) (m:Nat):Prop where
 yes:s=true→t∈I
 no:s=false→∀ j (h:j<I.length),j<m→I[j]≠t
theorem SeJ.start (I:List (List Nat)) (t:List Nat):SeJ I t false 0:=⟨fun h=>(Bool.false_ne_true h).elim,fun _ _ _ h=>absurd h (Nat.not_lt_zero _)⟩
theorem els5 {d:Nat} {gs:List (List Nat)} {w:World} {v:Value} (hd:d≤5) (hg:GG d gs) (hv:ElsV d gs 120 w v):∃ A,Rg.Rows w v (A.map Ma.ofN)∧AllE d gs A∧A.length≤120:=by
 rcases hv with hv | hv
 ·exact hv
 ·exact absurd hv.2 (OverE.no5 hg hd)
theorem BlockMoves_any (v0:Value) (l0:List Int) (w:World) (h0:Rg.IntsB maxLen w v0 l0) :
  Calls Tryz.prog 6 #[v0] w fun e w'=>e=.returned (.bool true)∧Below w.heap.size w w':=by
 obtain ⟨a0,c0,rfl,-⟩:=h0.shape;have HL0:=ι (show IB w (.slice a0 l0.length c0) l0 from ⟨h0⟩);clear h0;have K:=ι (Below.refl w.heap.size w)
 go_enter Tryz.func6,Tryz.ntmps6
 go_upto_region 0 with (fail);refine wp_region_list ?_;refine Rg.la 2 (.bool false) ?_;go_frame;go_upto_region 1 with (fail);refine wp_region_list ?_;refine list_ask (some 15) rfl rfl _ _ (exec_fn0 23 _ rfl (Jlcl0 _ _)) ?_;refine (BlockKnown_any w).mono ?_;rintro e1 w1 ⟨rfl,hb⟩;refine ⟨_,rfl,?_⟩;go_frame;replace HL0:=ι (HL0.out.below hb);replace K:=ι (Rg.acc K.out hb);clear hb;refine Rg.la 3 (.bool true) ?_;go_frame;go_upto_region 2 with (fail);refine wp_region_list ?_;refine Rg.lm 16 (.slice a0 l0.length c0) ?_;go_frame;refine list_ask (some 17) rfl rfl _ _ (exec_fn 24 _ _ _ rfl rfl rfl (Jlcl1 _ _)) ?_;refine (GroupOf_any _ _ 5 w1 HL0.out.i (by decide) (by decide)).mono ?_;rintro e1 w2 ⟨d,gv,gs,rfl,hd1,hd2,hgl,hgs,hgr,hb⟩;obtain ⟨ga,gc,rfl,-⟩:=hgr.shape;have HD:=ι (show 1≤d∧d≤5 from ⟨hd1,hd2⟩);have HGS:=ι hgs;have HGL:=ι hgl;have HCK:=ι (gchk_good (gs:=gs) hd1 (by omega) (by omega) hgs)
 clear hgs hgl;refine ⟨_,rfl,?_⟩;go_frame;replace HL0:=ι (HL0.out.below hb);replace K:=ι (Rg.acc K.out hb);clear hb;have HG:=ι hgr;obtain ⟨W2,hst,hga,hb⟩:=GI.fresh (d:=((d:Nat):Int)) HG.out;refine Rg.lr 4 (exec_allocG rfl) ?_;go_frame;refine Rg.list_skip none rfl rfl (Rg.exec_store _ _ _ rfl _ rfl _ rfl hst) ?_;go_frame;clear hst;clear hgr;replace HL0:=ι (HL0.out.below hb);replace HG:=ι (HG.out.below hb);replace K:=ι (Rg.acc K.out hb);clear hb;have G6:=ι hga;clear hga;have hd5:1≤d∧d≤5:=HD.out
 have hgl16:gs.length≤16:=by have:=HGL.out; omega
 have HGG:=ι (gg_of HGS.out);go_upto_region 3 with (fail);refine wp_region_list ?_;refine Rg.lr 18 (exec_fieldG0 _ rfl rfl) ?_;go_frame;refine Rg.lr 19 (Rg.exec_load (v:=.int .i64 ((d:Nat):Int)) _ _ rfl ⟨w2.heap.size,0,none⟩ rfl (run_loadInt G6.out.c0)) ?_;go_frame;refine Rg.lr 20 (exec_fieldG _ rfl rfl) ?_;go_frame;refine Rg.lr 21 (Rg.exec_load (v:=.slice ga (gs.map Ma.ofN).length gc) _ _ rfl ⟨w2.heap.size,1,none⟩ rfl (Rg.run_loadSl _ _ Tryz.underlying22 G6.out.c1)) ?_;go_frame;refine list_ask (some 22) rfl rfl _ _ (exec_fn3 32 _ _ _ _ rfl rfl rfl rfl (Jlcl2 _ _)) ?_;refine (Elements_f d _ gs 120 W2 hd5.1 (by omega) HG.out HGS.out (by omega) (by decide) (by decide)).mono ?_;rintro e1 w3 ⟨ev,rfl,hev,hb⟩;obtain ⟨A,hrw,hA,hAl⟩:=els5 hd5.2 HGG.out hev;have HA:=ι hA;have HAL:=ι hAl;obtain ⟨ea,ec,hsh⟩:=RdR.sh ⟨hrw⟩;subst hsh;clear hev hA hAl;refine ⟨_,rfl,?_⟩;go_frame
 replace HL0:=ι (HL0.out.below hb);replace HG:=ι (HG.out.below hb);replace G6:=ι (G6.out.below hb);replace K:=ι (Rg.acc K.out hb);clear hb;have RE:=ι (RdR.mk hrw);refine Rg.la 5 (.slice ea A.length ec) ?_;go_frame;clear hrw;go_upto_region 4 with (fail);refine wp_region_list ?_;refine Rg.lr 24 (Rg.exec_load (v:=.agg #[.int .i64 ((d:Nat):Int),.slice ga (gs.map Ma.ofN).length gc]) _ _ rfl ⟨w2.heap.size,0,none⟩ rfl (run_loadG G6.out.c0 G6.out.c1)) ?_;go_frame;refine list_ask (some 25) rfl rfl _ _ (exec_fn1 20 _ _ rfl rfl (Hvcl1 _ _)) ?_;refine (tv_at HCK.out _ w3 HG.out).mono ?_;rintro e1 w4 ⟨k,O,R,rfl,hch,htr,hb⟩;have HCH:=ι hch;have HTR:=ι htr;clear hch htr;refine ⟨_,rfl,?_⟩;go_frame;replace HL0:=ι (HL0.out.below hb);replace HG:=ι (HG.out.below hb);replace G6:=ι (G6.out.below hb);replace RE:=ι (RE.out.below hb);replace K:=ι (Rg.acc K.out hb);clear hb
 refine Rg.lm 23 (.tuple #[.int .i64 ((k:Nat):Int),.int .i64 0]) ?_;go_frame;refine Rg.lr 26 (exec_extract (v:=.int .i64 ((k:Nat):Int)) _ _ rfl rfl rfl) ?_;go_frame;refine Rg.lr 27 (exec_extract (v:=.int .i64 0) _ _ rfl rfl rfl) ?_;go_frame;refine Rg.la 6 (.int .i64 ((k:Nat):Int)) ?_;go_frame;refine Rg.la 7 (.int .i64 0) ?_;go_frame;go_upto_region 5 with (fail);refine wp_region_list ?_;refine Rg.la 8 (.int .i64 ((0:Nat):Int)) ?_;go_frame;refine Rg.la 9 (.int .i64 ((1:Nat):Int)) ?_;go_frame;go_upto_region 6 with (fail);refine wp_region_list ?_;refine Rg.la 10 (.int .i64 ((1:Nat):Int)) ?_;go_frame;generalize w4=wb at *;have KW:=K;clear K;have K:=ι (Below.refl wb.heap.size wb);have hkd:k≤d:=HTR.out.1;have HPF:=ι (pfa_zero d gs);have HL0:=ι (show (injT d 0).length=1 from rfl);have HI120:=ι (show ∀ n,n≤d→(injT d n).length≤120 from injT_120 d hd5.2)
 simp only [List.length_map];go_wp2
 go_loopw [8,9,10] (fun wv lv nv wr=>∃ n l n1:Nat,wv=.int .i64 ((n:Nat):Int)∧lv=.int .i64 ((l:Nat):Int)∧nv=.int .i64 ((n1:Nat):Int)∧n≤k∧Hid (n+1=n1)∧Hid ((injT d n).length=l)∧Hid (PfA d gs n)∧Hid (Below wb.heap.size wb wr)) (fun _ _ nv _=>d+1 - (intOf nv).toNat)
 case atStart=>exact ⟨0,1,1,rfl,rfl,rfl,Nat.zero_le _,ι rfl,HL0,HPF,K⟩
 case round =>
  clear HL0 HPF K;obtain ⟨n,l,n1,rfl,rfl,rfl,hnk,HN1,HL0,HPF,K⟩:=hrel;have hn1a:n+1≤n1:=Nat.le_of_eq HN1.out;have hn1b:n1≤n+1:=Nat.le_of_eq HN1.out.symm;generalize wr=wd at *;have G9:=ι (G6.out.below K.out)
  have hl120:l≤120:=by rw [← HL0.out]; exact HI120.out n (by omega)
  have HNK:=ι hnk
  by_cases hnd:n<d
  case neg =>
   have hkn:k=n:=by omega
   go_upto_region 7 with (fail);refine wp_region_list ?_;refine Rg.lm 28 (.int .i64 ((n1:Nat):Int)) ?_;go_frame;refine Rg.lr 29 (exec_fieldG0 _ rfl rfl) ?_;go_frame;refine Rg.lr 30 (Rg.exec_load (v:=.int .i64 ((d:Nat):Int)) _ _ rfl ⟨w2.heap.size,0,none⟩ rfl (run_loadInt G9.out.c0)) ?_;go_frame;refine Rg.lr 31 (exec_bin (R:=.bool false) .leq _ _ _ rfl rfl rfl (b_leq _ (decide_eq_false (by omega)))) ?_;go_frame;go_upto_region 23 with (fail);refine wp_region_list ?_;refine Rg.lm 84 (.bool true) ?_;go_frame;refine Rg.lm 85 (.bool true) ?_;go_frame;refine listW_run (some 86) rfl rfl (Rg.xm (.int .i64 0) _ rfl rfl) ?_;go_frame;refine listW_run (some 87) rfl rfl (exec_bin (R:=.bool true) .eql _ _ _ rfl rfl rfl (b_eql _ (decide_eq_true rfl))) ?_;go_frame;refine Rg.lr 88 (exec_pickT (v:=.bool true) _ _ _ rfl rfl rfl) ?_;go_frame;refine Rg.lm 89 (.bool true) ?_;go_frame;refine listW_run (some 90) rfl rfl (Rg.xm (.int .i64 ((k:Nat):Int)) _ rfl rfl) ?_;go_frame
   refine listW_run (some 91) rfl rfl (Rg.xm (.int .i64 ((n:Nat):Int)) _ rfl rfl) ?_;go_frame;refine listW_run (some 92) rfl rfl (exec_bin (R:=.bool true) .eql _ _ _ rfl rfl rfl (b_eql _ (decide_eq_true (by omega)))) ?_;go_frame;refine Rg.lr 93 (exec_pickT (v:=.bool true) _ _ _ rfl rfl rfl) ?_;go_frame;refine Rg.la 2 (.bool true) ?_;go_frame;go_wp2;go_ret;exact ⟨rfl,Rg.acc KW.out K.out⟩
  case pos =>
   have HND:=ι hnd;obtain ⟨l2,hl2⟩:∃ x,Hid ((injT d (n+1)).length=x):=⟨_,ι rfl⟩
   have hl2b:l2≤120:=by rw [← hl2.out]; exact HI120.out (n+1) hnd
   have HML:=ι (show ((l:Nat):Int)*(((d - n:Nat):Nat):Int)=((l2:Nat):Int) by rw [← hl2.out,← HL0.out,len_injT]; exact (Int.natCast_mul _ _).symm);have HL2B:=ι hl2b;go_upto_region 7 with (fail);refine wp_region_list ?_;refine Rg.lm 28 (.int .i64 ((n1:Nat):Int)) ?_;go_frame;refine Rg.lr 29 (exec_fieldG0 _ rfl rfl) ?_;go_frame;refine Rg.lr 30 (Rg.exec_load (v:=.int .i64 ((d:Nat):Int)) _ _ rfl ⟨w2.heap.size,0,none⟩ rfl (run_loadInt G9.out.c0)) ?_;go_frame;refine Rg.lr 31 (exec_bin (R:=.bool true) .leq _ _ _ rfl rfl rfl (b_leq _ (decide_eq_true (by omega)))) ?_;go_frame;go_upto_region 9 with (fail);refine wp_region_list ?_;refine Rg.lm 34 (.int .i64 ((l:Nat):Int)) ?_;go_frame;refine Rg.lr 35 (exec_fieldG0 _ rfl rfl) ?_;go_frame;refine Rg.lr 36 (Rg.exec_load (v:=.int .i64 ((d:Nat):Int)) _ _ rfl ⟨w2.heap.size,0,none⟩ rfl (run_loadInt G9.out.c0)) ?_;go_frame
   refine Rg.lm 37 (.int .i64 ((n1:Nat):Int)) ?_;go_frame;refine Rg.lr 38 (exec_bin (R:=.int .i64 (((d - n1):Nat):Int)) .sub _ _ _ rfl rfl rfl (b_sub _ (by omega) (by omega))) ?_;go_frame;refine Rg.lr 39 (exec_bin (R:=.int .i64 (((d - n):Nat):Int)) .add _ _ _ rfl rfl rfl (b_add _ (by omega) (by omega))) ?_;go_frame;refine Rg.lr 40 (exec_bin (R:=.int .i64 ((l2:Nat):Int)) .mul _ _ _ rfl rfl rfl (b_mul _ HML.out (by omega))) ?_;go_frame;refine Rg.la 9 (.int .i64 ((l2:Nat):Int)) ?_;go_frame;go_upto_region 10 with (fail);refine wp_region_list ?_;refine Rg.la 11 (.slice none 0 0) ?_;go_frame;go_upto_region 11 with (fail);refine wp_region_list ?_;refine Rg.la 12 (.int .i64 ((0:Nat):Int)) ?_;go_frame;have IM:=ι (ImM.nil K.out);have IT:=ι (show ImT (A.take 0) [] (n+1) by rw [List.take_zero]; exact ImT.nil _);clear K G9;go_wp2
   go_loopw [11,12] (fun mv iv wr=>∃ (i:Nat) (I:List (List Nat)),iv=.int .i64 ((i:Nat):Int)∧i≤A.length∧Hid (ImM wb wr mv I)∧Hid (ImT (A.take i) I (n+1))) (fun _ iv _=>A.length - (intOf iv).toNat)
   case atStart=>exact ⟨0,[],rfl,Nat.zero_le _,IM,IT⟩
   case round =>
    clear IM IT;obtain ⟨i,I,rfl,hi,IM,IT⟩:=hrel;obtain ⟨ma,mc,hsh⟩:=IM.out.row.shape;rw [List.length_map] at hsh;subst hsh;generalize wr=we at *;have hal:A.length≤120:=HAL.out
    by_cases hiA:i<A.length
    case neg =>
     have IT2:=ι (show ImT A I (n+1) by
      have h5:=IT.out
      rwa [List.take_of_length_le (by omega)] at h5)
     have HEQ:=ι (imT_len HGG.out HA.out (show n+1≤d from hnd) IT2.out);have HST:=ι (pfa_step HGG.out HCH.out hnd HPF.out);have KE:=ι IM.out.bel
     by_cases hIl:I.length=l2
     case pos =>
      have hP1:PfA d gs (n+1):=HEQ.out.1 (by rw [hIl,hl2.out]);have HP1:=ι hP1
      have hn1k:n+1≤k:=by
       refine Nat.lt_of_le_of_ne hnk fun e=>?_
       rcases HTR.out.2.2 with h5 | h5
       ·omega
       ·rw [← e] at h5; exact h5 (HST.out.1 hP1)
      go_upto_region 12 with (fail);refine wp_region_list ?_;refine Rg.lm 41 (.int .i64 ((i:Nat):Int)) ?_;go_frame;refine Rg.lm 42 (.slice ea A.length ec) ?_;go_frame;refine Rg.lr 43 (exec_len _ _ _ rfl Tryz.underlying22 _ _ _ rfl) ?_;go_frame;refine Rg.lr 44 (exec_bin (R:=.bool false) .lss _ _ _ rfl rfl rfl (b_lss _ (decide_eq_false (by omega)))) ?_;go_frame;go_upto_region 21 with (fail);refine wp_region_list ?_;refine Rg.lm 79 (.slice ma I.length mc) ?_;go_frame;refine Rg.lr 80 (exec_len _ _ _ rfl Tryz.underlying27 _ _ _ rfl) ?_;go_frame;refine Rg.lm 81 (.int .i64 ((l2:Nat):Int)) ?_;go_frame;refine Rg.lr 82 (exec_bin (R:=.bool false) .neq _ _ _ rfl rfl rfl (b_neqB _ (decide_eq_false (by omega)))) ?_;go_frame;go_upto_region 22 with (fail);refine wp_region_list ?_;refine Rg.lm 83 (.int .i64 ((n1:Nat):Int)) ?_;go_frame;refine Rg.la 8 (.int .i64 ((n1:Nat):Int)) ?_;go_frame
      go_upto_region 8 with (fail);refine wp_region_list ?_;refine Rg.lm 32 (.int .i64 ((n1:Nat):Int)) ?_;go_frame;refine Rg.lr 33 (exec_bin (R:=.int .i64 (((n1+1):Nat):Int)) .add _ _ _ rfl rfl rfl (b_add _ (by omega) (by omega))) ?_;go_frame;refine Rg.la 10 (.int .i64 (((n1+1):Nat):Int)) ?_;go_frame;go_wp2
      go_roundw
      case rel=>exact ⟨n+1,l2,n1+1,by rw [HN1.out],rfl,by go_num,hn1k,ι (by rw [HN1.out]),hl2,HP1,KE⟩
      case measure=>simp [intOf]; have:=HND.out; have:=HN1.out; omega
     case neg =>
      have hkn:k=n:=by
       refine Nat.le_antisymm (Nat.le_of_not_lt fun hlt=>hIl ?_) hnk;rw [HEQ.out.2 (HST.out.2 (HTR.out.2.1 n hlt)),hl2.out]
      go_upto_region 12 with (fail);refine wp_region_list ?_;refine Rg.lm 41 (.int .i64 ((i:Nat):Int)) ?_;go_frame;refine Rg.lm 42 (.slice ea A.length ec) ?_;go_frame;refine Rg.lr 43 (exec_len _ _ _ rfl Tryz.underlying22 _ _ _ rfl) ?_;go_frame;refine Rg.lr 44 (exec_bin (R:=.bool false) .lss _ _ _ rfl rfl rfl (b_lss _ (decide_eq_false (by omega)))) ?_;go_frame;go_upto_region 21 with (fail);refine wp_region_list ?_;refine Rg.lm 79 (.slice ma I.length mc) ?_;go_frame;refine Rg.lr 80 (exec_len _ _ _ rfl Tryz.underlying27 _ _ _ rfl) ?_;go_frame;refine Rg.lm 81 (.int .i64 ((l2:Nat):Int)) ?_;go_frame;refine Rg.lr 82 (exec_bin (R:=.bool true) .neq _ _ _ rfl rfl rfl (b_neqB _ (decide_eq_true (by omega)))) ?_;go_frame;go_upto_region 23 with (fail);refine wp_region_list ?_;refine Rg.lm 84 (.bool true) ?_;go_frame;refine Rg.lm 85 (.bool true) ?_;go_frame;refine listW_run (some 86) rfl rfl (Rg.xm (.int .i64 0) _ rfl rfl) ?_;go_frame
      refine listW_run (some 87) rfl rfl (exec_bin (R:=.bool true) .eql _ _ _ rfl rfl rfl (b_eql _ (decide_eq_true rfl))) ?_;go_frame;refine Rg.lr 88 (exec_pickT (v:=.bool true) _ _ _ rfl rfl rfl) ?_;go_frame;refine Rg.lm 89 (.bool true) ?_;go_frame;refine listW_run (some 90) rfl rfl (Rg.xm (.int .i64 ((k:Nat):Int)) _ rfl rfl) ?_;go_frame;refine listW_run (some 91) rfl rfl (Rg.xm (.int .i64 ((n:Nat):Int)) _ rfl rfl) ?_;go_frame;refine listW_run (some 92) rfl rfl (exec_bin (R:=.bool true) .eql _ _ _ rfl rfl rfl (b_eql _ (decide_eq_true (by omega)))) ?_;go_frame;refine Rg.lr 93 (exec_pickT (v:=.bool true) _ _ _ rfl rfl rfl) ?_;go_frame;refine Rg.la 2 (.bool true) ?_;go_frame;go_wp2;go_ret;exact ⟨rfl,Rg.acc KW.out KE.out⟩
    case pos =>
     have HIA:=ι hiA;obtain ⟨y,hy⟩:∃ y,Hid (A[i]'hiA=y):=⟨_,ι rfl⟩;obtain ⟨eb,eo,ec',eu,e1,hce,hne⟩:=RE.out.at hiA
     injection e1 with e1 _ e3
     subst e1 e3;rw [hy.out] at hne;have hgy:Gd d y:=(Cm.Gr.isG HGS.out).gd y ((HA.out.2 y).1 (by rw [← hy.out]; exact List.getElem_mem hiA));obtain ⟨yb,yo,yc,hsh,-⟩:=NpI.at ⟨hne⟩ hgy.2 hd5.1;subst hsh
     have HYC:=ι (show d≤yc by
      obtain ⟨_,_,e,h5,_⟩:=hne.shape
      injection e with _ _ e3
      rw [hgy.2] at h5
      omega)
     have HYF:=ι (show ∀ W,Below wb.heap.size wb W→Rg.FI (fun z=>z<wb.heap.size) W (.slice (some ⟨yb,yo,none⟩) n1 yc) (Ma.ofN (y.take (n+1))) from fun W hW=>by rw [← HN1.out]; exact fi_take hne hgy.2 hd5.1 hnd hW);have CE:=ι hce;obtain ⟨t,ht⟩:∃ t,Hid (y.take (n+1)=t):=⟨_,ι rfl⟩;rw [ht.out] at HYF;have HTK:=ι (show A.take (i+1)=A.take i++[y] by rw [List.take_add_one,List.getElem?_eq_getElem hiA,hy.out]; rfl)
     have hIl:I.length≤120:=by
      have h5:=nodup_le IT.out.nd (m:=injT d (n+1)) fun z hz=>by
       obtain ⟨q,hq,e⟩:=(IT.out.mem z).1 hz;rw [← e];exact gr_inj HGG.out ((HA.out.2 q).1 (List.mem_of_mem_take hq)) hnd
      have h6:=HI120.out (n+1) hnd;omega
     have HIL:=ι hIl;clear hce hne;go_upto_region 12 with (fail);refine wp_region_list ?_;refine Rg.lm 41 (.int .i64 ((i:Nat):Int)) ?_;go_frame;refine Rg.lm 42 (.slice (some ⟨eb,eo,none⟩) A.length ec) ?_;go_frame;refine Rg.lr 43 (exec_len _ _ _ rfl Tryz.underlying22 _ _ _ rfl) ?_;go_frame;refine Rg.lr 44 (exec_bin (R:=.bool true) .lss _ _ _ rfl rfl rfl (b_lss _ (decide_eq_true (by omega)))) ?_;go_frame;go_upto_region 14 with (fail);refine wp_region_list ?_;refine Rg.la 13 (.bool false) ?_;go_frame;go_upto_region 15 with (fail);refine wp_region_list ?_;refine Rg.la 14 (.int .i64 ((0:Nat):Int)) ?_;go_frame;have SJ:=ι (SeJ.start I t);go_wp2
     go_loopw [13,14] (fun sv mv wr=>∃ (m:Nat) (s:Bool),sv=.bool s∧mv=.int .i64 ((m:Nat):Int)∧m≤I.length∧Hid (SeJ I t s m)∧Hid (ImM wb wr (.slice ma I.length mc) I)) (fun _ mv _=>I.length - (intOf mv).toNat)
     case atStart=>exact ⟨0,false,rfl,rfl,Nat.zero_le _,SJ,IM⟩
     case round =>
      clear SJ IM;obtain ⟨m,s,rfl,rfl,hm,SJ,IM⟩:=hrel;generalize wr=wf at *;have hal:A.length≤120:=HAL.out;have hIl:I.length≤120:=HIL.out
      cases s
      case true =>
       have IT2:=ι (show ImT (A.take (i+1)) I (n+1) by rw [HTK.out]; exact IT.out.hit (by rw [ht.out]; exact SJ.out.yes rfl));go_upto_region 16 with (fail);refine wp_region_list ?_;refine Rg.lm 47 (.bool true) ?_;go_frame;refine Rg.lr 48 (exec_not _ _ true rfl rfl) ?_;go_frame;refine Rg.lm 49 (.bool false) ?_;go_frame;refine listW_pass (some 50) (by kernel_rfl) rfl ?_;go_frame;refine listW_pass (some 51) (by kernel_rfl) rfl ?_;go_frame;refine listW_pass (some 52) (by kernel_rfl) rfl ?_;go_frame;refine listW_pass (some 53) (by kernel_rfl) rfl ?_;go_frame;refine Rg.lr 54 (exec_pickF (v:=.bool false) _ _ _ rfl rfl rfl) ?_;go_frame;go_upto_region 19 with (fail);refine wp_region_list ?_;refine Rg.lm 68 (.bool true) ?_;go_frame;refine Rg.lr 69 (exec_not _ _ true rfl rfl) ?_;go_frame;go_upto_region 13 with (fail);refine wp_region_list ?_;refine Rg.lm 45 (.int .i64 ((i:Nat):Int)) ?_;go_frame
       refine Rg.lr 46 (exec_bin (R:=.int .i64 (((i+1):Nat):Int)) .add _ _ _ rfl rfl rfl (b_add _ (by omega) (by omega))) ?_;go_frame;refine Rg.la 12 (.int .i64 (((i+1):Nat):Int)) ?_;go_frame;go_wp2
       go_roundw
       case rel=>exact ⟨i+1,I,by go_num,HIA.out,IM,IT2⟩
       case measure=>simp [intOf]; have:=HIA.out; omega
      case false =>
       by_cases hmI:m<I.length
       case neg =>
        have HNI:Hid (t∉I):=ι (fun h=>by
         obtain ⟨j,hj,e⟩:=List.getElem_of_mem h
         exact SJ.out.no rfl j hj (by omega) e)
        have IT2:=ι (show ImT (A.take (i+1)) (I++[t]) (n+1) by
         rw [HTK.out,← ht.out]
         exact IT.out.put (by rw [ht.out]; exact HNI.out))
        have CEF:=ι (CE.out.up IM.out.bel);go_upto_region 16 with (fail);refine wp_region_list ?_;refine Rg.lm 47 (.bool false) ?_;go_frame;refine Rg.lr 48 (exec_not _ _ false rfl rfl) ?_;go_frame;refine Rg.lm 49 (.bool true) ?_;go_frame;refine listW_run (some 50) rfl rfl (Rg.xm (.int .i64 ((m:Nat):Int)) _ rfl rfl) ?_;go_frame;refine listW_run (some 51) rfl rfl (Rg.xm (.slice ma I.length mc) _ rfl rfl) ?_;go_frame;refine listW_run (some 52) rfl rfl (exec_len _ _ _ rfl Tryz.underlying27 _ _ _ rfl) ?_;go_frame;refine listW_run (some 53) rfl rfl (exec_bin (R:=.bool false) .lss _ _ _ rfl rfl rfl (b_lss _ (decide_eq_false (by omega)))) ?_;go_frame;refine Rg.lr 54 (exec_pickT (v:=.bool false) _ _ _ rfl rfl rfl) ?_;go_frame;go_upto_region 19 with (fail);refine wp_region_list ?_;refine Rg.lm 68 (.bool false) ?_;go_frame;refine Rg.lr 69 (exec_not _ _ false rfl rfl) ?_;go_frame;go_upto_region 20 with (fail)
        refine wp_region_list ?_;refine Rg.lm 70 (.slice ma I.length mc) ?_;go_frame;refine Rg.lm 71 (.slice (some ⟨eb,eo,none⟩) A.length ec) ?_;go_frame;refine Rg.lm 72 (.int .i64 ((i:Nat):Int)) ?_;go_frame;refine Rg.lr 73 (exec_indexS slPerms _ _ rfl eb (eo) (A.length) ec (i) rfl rfl HIA.out) ?_;go_frame;refine Rg.lr 74 (Rg.exec_load (v:=.slice (some ⟨yb,yo,none⟩) d yc) _ _ rfl ⟨eb,eo+i,none⟩ rfl (Rg.run_loadSl _ _ Tryz.underlying51 CEF.out.cell)) ?_;go_frame;refine Rg.lm 75 (.int .i64 ((n1:Nat):Int)) ?_;go_frame;refine Rg.lr 76 (exec_sliceHiV _ _ rfl rfl rfl (run_sliceHiV _ _ _ _ _ (by have:=HYC.out; have:=HND.out; have:=HN1.out; omega))) ?_;go_frame;obtain ⟨a9,c9,X9,r1,him⟩:=IM.out.push (HYF.out _ IM.out.bel) ⟨_,_,_,rfl⟩ (by omega) 27;refine Rg.lr 77 (Rg.exec_buildSlice _ _ _ rfl (.slice (some ⟨yb,yo,none⟩) n1 yc) rfl (run_build1L wf _ ⟨_,_,_,rfl⟩)) ?_;go_frame
        refine Rg.lr 78 (Rg.exec_append _ _ _ rfl rfl rfl r1) ?_;go_frame;refine Rg.la 11 (.slice a9 (I.length+1) c9) ?_;go_frame;have IM2:=ι (show ImM wb X9 (.slice a9 (I.length+1) c9) (I++[t]) from him);clear r1 him;go_upto_region 13 with (fail);refine wp_region_list ?_;refine Rg.lm 45 (.int .i64 ((i:Nat):Int)) ?_;go_frame;refine Rg.lr 46 (exec_bin (R:=.int .i64 (((i+1):Nat):Int)) .add _ _ _ rfl rfl rfl (b_add _ (by omega) (by omega))) ?_;go_frame;refine Rg.la 12 (.int .i64 (((i+1):Nat):Int)) ?_;go_frame;go_wp2
        go_roundw
        case rel=>exact ⟨i+1,I++[t],by go_num,HIA.out,IM2,IT2⟩
        case measure=>simp [intOf]; have:=HIA.out; omega
       case pos =>
        have HMI:=ι hmI;obtain ⟨bb,bc2,bu,e1,-,e3,e4,e5⟩:=IM.out.row.at (i:=m) (by rw [List.length_map]; exact hmI);rw [List.length_map] at e1
        injection e1 with e1 _ e6
        subst e1 e6;obtain ⟨z,hz⟩:∃ z,Hid (I[m]'hmI=z):=⟨_,ι rfl⟩;rw [List.getElem_map,hz.out] at e5;have CB:=ι (show CL wf bb (0+m) bu from ⟨by rw [Nat.zero_add]; exact e4,e3⟩);have ZV:=ι (NpI.mk e5.ints);have CEF:=ι (CE.out.up IM.out.bel);have YV:=ι (NpI.mk (HYF.out _ IM.out.bel).ints);obtain ⟨b,hb⟩:∃ b,Hid (decide (Ma.ofN z=Ma.ofN t)=b):=⟨_,ι rfl⟩
        have HZT:Hid (z=t↔b=true):=ι (by
         rw [← hb.out,decide_eq_true_iff];refine ⟨fun e=>by rw [e],fun e=>?_⟩;have h6:=congrArg (List.map Int.toNat) e
         rwa [toN1,toN1] at h6)
        clear e3 e4 e5;go_upto_region 16 with (fail);refine wp_region_list ?_;refine Rg.lm 47 (.bool false) ?_;go_frame;refine Rg.lr 48 (exec_not _ _ false rfl rfl) ?_;go_frame;refine Rg.lm 49 (.bool true) ?_;go_frame;refine listW_run (some 50) rfl rfl (Rg.xm (.int .i64 ((m:Nat):Int)) _ rfl rfl) ?_;go_frame;refine listW_run (some 51) rfl rfl (Rg.xm (.slice (some ⟨bb,0,none⟩) I.length mc) _ rfl rfl) ?_;go_frame;refine listW_run (some 52) rfl rfl (exec_len _ _ _ rfl Tryz.underlying27 _ _ _ rfl) ?_;go_frame;refine listW_run (some 53) rfl rfl (exec_bin (R:=.bool true) .lss _ _ _ rfl rfl rfl (b_lss _ (decide_eq_true (by omega)))) ?_;go_frame;refine Rg.lr 54 (exec_pickT (v:=.bool true) _ _ _ rfl rfl rfl) ?_;go_frame;go_upto_region 18 with (fail);have hV0:Below wf.heap.size wf wf.drew:=(Below.refl _ _).drew;replace IM:=ι (IM.out.below hV0);replace CEF:=ι (CEF.out.below hV0);replace CB:=ι (CB.out.below hV0)
        replace ZV:=ι (ZV.out.below hV0);replace YV:=ι (YV.out.below hV0);clear hV0;refine Rg.Any.begin (S:=Rg.Both 11 (fun _=>True) (fun W=>Below wf.drew.heap.size wf.drew W)) mix ?_;generalize wf.drew=w201 at *;have hS:∀ (l:Array Bool) W,Below w201.heap.size w201 W→Rg.Both 11 (fun _=>True) (fun W=>Below w201.heap.size w201 W) l W:=fun l W h=>⟨.inr trivial,h⟩;have hI:Below w201.heap.size w201 w201:=Below.refl _ _;refine Rg.tm 0 11 (.slice (some ⟨bb,0,none⟩) I.length mc) 57 (hS _ _ hI) ?_;go_frame;refine Rg.tm 1 11 (.int .i64 ((m:Nat):Int)) 58 (hS _ _ hI) ?_;go_frame;refine Rg.tg 2 11 (.pointer (some ⟨bb,0+m,none⟩)) 59 rfl rfl (Rg.yields_index slIntss _ _ rfl rfl bb (0) (I.length) mc (m) rfl rfl HMI.out) (hS _ _ hI) ?_;go_frame;refine Rg.tg 3 11 (bu) 60 rfl rfl (Rg.yields_cell _ _ rfl rfl ⟨bb,0+m,none⟩ rfl (fun W hW=>Rg.run_loadSl _ _ Tryz.underlying36 ((Below.cell (p:=⟨bb,0+m,none⟩) hW CB.out.lt).trans CB.out.cell))) (hS _ _ hI) ?_;go_frame
        refine Rg.tm 4 11 (.slice (some ⟨eb,eo,none⟩) A.length ec) 61 (hS _ _ hI) ?_;go_frame;refine Rg.tm 5 11 (.int .i64 ((i:Nat):Int)) 62 (hS _ _ hI) ?_;go_frame;refine Rg.tg 6 11 (.pointer (some ⟨eb,eo+i,none⟩)) 63 rfl rfl (Rg.yields_index slPerms _ _ rfl rfl eb (eo) (A.length) ec (i) rfl rfl HIA.out) (hS _ _ hI) ?_;go_frame;refine Rg.tg 7 11 (.slice (some ⟨yb,yo,none⟩) d yc) 64 rfl rfl (Rg.yields_cell _ _ rfl rfl ⟨eb,eo+i,none⟩ rfl (fun W hW=>Rg.run_loadSl _ _ Tryz.underlying51 ((Below.cell (p:=⟨eb,eo+i,none⟩) hW CEF.out.lt).trans CEF.out.cell))) (hS _ _ hI) ?_;go_frame;refine Rg.tm 8 11 (.int .i64 ((n1:Nat):Int)) 65 (hS _ _ hI) ?_;go_frame;refine Rg.tg 9 11 (.slice (some ⟨yb,yo,none⟩) n1 yc) 66 rfl rfl (.inl ⟨rfl,fun w _=>exec_sliceHiV _ _ rfl rfl rfl (run_sliceHiV _ _ _ _ _ (by have:=HYC.out; have:=HND.out; have:=HN1.out; omega))⟩) (hS _ _ hI) ?_;go_frame
        refine Rg.Any.one (i:=10) (by kernel_rfl) (Rg.Any.ask (some 67) rfl rfl rfl _ _ (exec_fn 33 _ _ _ rfl rfl rfl (Hocl5 _ _)) ?_);refine (Same_any (w0:=w201) ZV.out.i YV.out.i hb (Below.refl _ _)).mono ?_;rintro e1 w202 ⟨rfl,hb⟩;have hI2_0:=Rg.acc hI hb;clear hb hI;refine ⟨_,rfl,(hS _ _ hI2_0),?_⟩;go_frame;refine Rg.Any.one (i:=11) (by kernel_rfl) (Rg.Any.run (some 13) rfl rfl rfl (Rg.xa (.bool b) _ rfl rfl) (hS _ _ hI2_0) ?_);go_frame;refine Rg.Any.done (by kernel_rfl) ?_ _;replace IM:=ι (IM.out.below hI2_0);replace CEF:=ι (CEF.out.below hI2_0);replace CB:=ι (CB.out.below hI2_0);replace ZV:=ι (ZV.out.below hI2_0);replace YV:=ι (YV.out.below hI2_0);clear hS hI2_0;go_upto_region 17 with (fail);refine wp_region_list ?_;refine Rg.lm 55 (.int .i64 ((m:Nat):Int)) ?_;go_frame;refine Rg.lr 56 (exec_bin (R:=.int .i64 (((m+1):Nat):Int)) .add _ _ _ rfl rfl rfl (b_add _ (by omega) (by omega))) ?_;go_frame
        refine Rg.la 14 (.int .i64 (((m+1):Nat):Int)) ?_;go_frame
        have SJ2:=ι (show SeJ I t b (m+1) from ⟨fun h=>by rw [← HZT.out.2 h,← hz.out]; exact List.getElem_mem _,fun h j hj hlt e=>by
         by_cases ej:j=m
         ·subst ej
          have h7:=HZT.out.1 (by rw [← hz.out]; exact e);rw [h] at h7; cases h7
         ·exact SJ.out.no rfl j hj (by omega) e⟩)
        go_wp2
        go_roundw
        case rel=>exact ⟨m+1,b,rfl,by go_num,HMI.out,SJ2,IM⟩
        case measure=>simp [intOf]; have:=HMI.out; omega
end Go.Proofs.YthehbckogieimaaGreat

set_option linter.unusedVariables false
namespace Go.Proofs.YthehbckogieimaaGreat
open Go.RowKit
open Go.Proofs
open Go.ChangeShapes Go.WideShapes Go.Deep Go.Joins
attribute [local irreducible] Go.Calls
section
variable {H:Type} {enc:TypeId × Value→H}
theorem readI {W:World} {base:Nat} {r:Reach} {v:Value} {d:DataW H} {p:List MemPlace} (h:DataW.Trod enc Tryz.prog W 0 (fun _=>true) true 36 v d p) (hv:∃ x,v.cells.toList=[x]∧v=x) :
  ∃ l,Rg.IntsB maxLen W v l:=by
 obtain ⟨fuel,hf⟩:=h;obtain ⟨x,hc,rfl⟩:=hv;rw [hc] at hf
 rcases open_ints Tryz.underlying36 Tryz.underlying3 cells3 hf with ⟨hcs,_⟩ | ⟨a,len,cap,zs,hcs,_,hl,hm,hz,_,hcell,_⟩
 ·obtain rfl:v=.slice none 0 0:=by simpa using hcs
  exact ⟨[],none,0,rfl,by simp,Nat.zero_le _,by simp,fun h=>by simp at h⟩
 ·obtain rfl:v=.slice (some a) len cap:=by simpa using hcs
  simp only [if_true] at hz
  have hlen:(zs.take len).length=len:=by rw [List.length_take]; omega
  refine ⟨zs.take len,some a,cap,by rw [List.length_map,hlen],by rw [List.length_map,hlen]; exact hl,hm,by rw [List.length_map,hlen]; omega,fun h0=>?_⟩;rw [List.length_map,hlen] at h0;have hc0:=hcell 0 (by omega)
  have ha:a=⟨a.block,a.off,none⟩:=by
   have:=spot_none (a:=a) (by simpa [Addr.add] using hc0)
   cases a; simp at this; subst this; rfl
  refine ⟨a.block,a.off,by rw [← ha],lt_of_cell (a:=a) (by simpa [Addr.add] using hc0),fun i hi=>?_⟩;rw [List.length_map,hlen] at hi;rw [← add_none ha i,hcell i (by omega)];simp [List.getD,List.getElem?_eq_getElem (show i<zs.length by omega)]
end
end Go.Proofs.YthehbckogieimaaGreat
