/- Lemmas and contracts on the way to the statement; no condition of their own beyond those written. -/
import Derived.Test.YtdnmmibchbceeaaGreatXDitoDt
import Derived.RangeFuncWrites
import Derived.RangeFuncNested
import Derived.RangeFuncBox
import Derived.RangeFuncLeaves
import Derived.Shelf.Abstract
import Derived.OwnWalkIn
import Derived.TacticsInMore
import Derived.LoopNIn
import Derived.LoopIn
import Derived.Maps.AppendAt
import Derived.Sort.CutIn
import Derived.Deep.CutRange
import Derived.Deep.CutBlock
import Derived.IntWalk
import Derived.Great.BuildSlice
import Derived.ArgAppend
import Derived.Laws.CopyOwn
import Derived.StillTailTactics
import Derived.Deep.MidRow
import Derived.WalkSpells
import Derived.WalkLawsBesides
import Derived.OwnWalk
import Derived.OrdersHeld
import Derived.Deep.OwnRows
import Derived.WalkKit
import Derived.Lib.Hide
import Derived.Laws.OwnMore
import Derived.Test.YtdnmmibchbceeaaGreatProg
import Derived.Outline
import Derived.Deep.DeepFit
import Derived.BigQuiet
import Derived.Deep.QuietTactic
import Derived.Sort.OwnSortedInts
import Derived.WideMake
import Derived.MapKept
import Derived.ChangeMaps5
import Derived.Shelf.Sort.Plain
import Derived.Lib.ConvBytes
import Derived.ChangeKeysEq
import Derived.Laws.Cells
import Derived.Laws.Rows
import Derived.Laws.Tables
import Derived.Deep.WholeRow
import Derived.OrdersIn
import Derived.TacticsIn
import Derived.Deep.LoopGhost
import Derived.Lib.SlicesSearch
import Derived.Stop.BytesEq
import Derived.Shelf.SlSortCmp.Whole1
import Derived.Ground.SlsfProg
import Derived.Lib.SmallJoins
import Derived.Deep.Matrix
import Derived.Deep.Strs
set_option linter.unusedVariables false
set_option linter.unusedSimpArgs false
set_option maxRecDepth 100000
set_option maxHeartbeats 8000000
namespace Go.Proofs.YtdnmmibchbceeaaGreat
open Go.RowKit
open Go.Proofs
open Go.Proofs.Ob
open Go.Proofs.Cm (Gd Gr IsChain ap)
attribute [local irreducible] Go.Calls Go.wpList
theorem Bqcl1 (args:Array Value) (w:World):(callFunc 48 args).run Tryz.prog w=.ok (.enter 48 args) w:=by kernel_rfl
theorem stG0 (b:Nat) (w:World):(Instr.fieldAt 51 (.pointer (some ⟨b,0,none⟩)) 0).run Tryz.prog w=.ok (.pointer (some ⟨b,0,none⟩)) w:=by kernel_rfl
theorem stG1 (b:Nat) (w:World):(Instr.fieldAt 51 (.pointer (some ⟨b,0,none⟩)) 1).run Tryz.prog w=.ok (.pointer (some ⟨b,1,none⟩)) w:=by kernel_rfl
theorem stG2 (b:Nat) (w:World):(Instr.fieldAt 51 (.pointer (some ⟨b,0,none⟩)) 2).run Tryz.prog w=.ok (.pointer (some ⟨b,2,none⟩)) w:=by kernel_rfl
theorem clRun1 (args:Array Value) (w:World):(callFunc 49 args).run Tryz.prog w=.ok (.enter 49 args) w:=by kernel_rfl
theorem RnM.start {B:Nat} {F:Nat→Prop} {W W':World} {cb:Nat} {v:Value} {T:List (List Nat)} (h:RowF F B W v T) (hF:∀ k,F k→k<B) (hb:Below W.heap.size W W') (hcb:W.heap.size≤cb) (hcl:cb<W'.heap.size):RnM B W' cb v T:=by
 obtain ⟨us,h1,h2⟩:=h.own;have hs:=h.size;refine ⟨⟨us,Rg.row_below h1 hb,(h2.kp (M:=fun _=>False) (Rg.Kp.of_below hb) (fun _ _=>id)).mono fun k g=>⟨by have:=hF k g; have:=hb.size; omega,by have:=hF k g; omega,fun e=>by have:=(h1.lt k e).1; have:=hF k g; omega⟩⟩,fun e=>by have:=(h1.lt cb e).2; omega,Nat.le_trans hs hb.size⟩
theorem boxPs (W:World) (y:Value) (t:TypeId):CW ((W.alloc (.cells #[.slice none 0 0] t)).setCell ⟨W.heap.size,0,none⟩ y) W.heap.size y∧Below W.heap.size W ((W.alloc (.cells #[.slice none 0 0] t)).setCell ⟨W.heap.size,0,none⟩ y):=by
 have c0:(W.alloc (.cells #[.slice none 0 0] t)).cell? ⟨W.heap.size,0,none⟩=some (.slice none 0 0):=by rw [Rg.cellNew]; rfl
 exact ⟨⟨World.cell?_setCell_same (h:=c0) ..,by rw [World.frozen?_setCell]; exact frozenNewN _ _ _ 0 _,by simp⟩,((Below.refl _ _).alloc (Nat.le_refl _) _).setCell (p:=⟨W.heap.size,0,none⟩) (Nat.le_refl _) _⟩
structure RnG (D:Nat) (gs T:List (List Nat)) (i:Nat):Prop where
 ln:T.length=gs.length+i
 gd:∀ x∈T,Gd D x
theorem RnG.next {D:Nat} {gs T:List (List Nat)} {i:Nat} (h:RnG D gs T i) {x:List Nat} (hx:Gd D x):RnG D gs (T++[x]) (i+1) :=
 ⟨by rw [List.length_append,h.ln]; rfl,fun y hy=>by
  rcases List.mem_append.1 hy with hy | hy
  ·exact h.gd y hy
  ·rw [List.mem_singleton] at hy; rw [hy]; exact hx⟩
theorem run1_any {w:World} {cb:Nat} {a:Option Addr} {n c:Nat} {i:Int} (hc:CL w cb 0 (.slice a n c)) :
  Calls Tryz.prog 49 #[.int .i64 i,.pointer (some ⟨cb,0,none⟩)] w fun e w'=>e=.returned (.bool (decide (0≤i∧i<(n:Int))))∧Below w.heap.size w w':=by
 have C0:=ι hc;have K:=ι (Below.refl w.heap.size w);clear hc
 by_cases h0:0≤i
 case neg =>
  rw [show decide (0≤i∧i<(n:Int))=false from decide_eq_false (fun e=>h0 e.1)]
  go_enter Tryz.func49,Tryz.ntmps49
  go_upto_region 0 with (fail);refine Rg.wl ?_;refine Rg.la 3 (.bool false) ?_;go_frame;go_upto_region 1 with (fail);refine Rg.wl ?_;refine Rg.lm 4 (.int .i64 i) ?_;go_frame;refine Rg.lr 5 (exec_bin (R:=.bool false) .geq _ _ _ rfl rfl rfl (b_geq _ Rg.dF)) ?_;go_frame;refine Rg.lm 6 (.bool false) ?_;go_frame;refine listW_pass (some 7) (by kernel_rfl) rfl ?_;go_frame;refine listW_pass (some 8) (by kernel_rfl) rfl ?_;go_frame;refine listW_pass (some 9) (by kernel_rfl) rfl ?_;go_frame;refine listW_pass (some 10) (by kernel_rfl) rfl ?_;go_frame;refine Rg.lr 11 (exec_pickF (v:=.bool false) _ _ _ rfl rfl rfl) ?_;go_frame;refine Rg.la 3 (.bool false) ?_;go_frame;go_wp2;go_ret;exact ⟨rfl,K.out⟩
 case pos =>
  by_cases h1:i<(n:Int)
  case neg =>
   rw [show decide (0≤i∧i<(n:Int))=false from decide_eq_false (fun e=>h1 e.2)]
   go_enter Tryz.func49,Tryz.ntmps49
   go_upto_region 0 with (fail);refine Rg.wl ?_;refine Rg.la 3 (.bool false) ?_;go_frame;go_upto_region 1 with (fail);refine Rg.wl ?_;refine Rg.lm 4 (.int .i64 i) ?_;go_frame;refine Rg.lr 5 (exec_bin (R:=.bool true) .geq _ _ _ rfl rfl rfl (b_geq _ Rg.dT)) ?_;go_frame;refine Rg.lm 6 (.bool true) ?_;go_frame;refine Rg.lW 7 (Rg.xm (.int .i64 i) _ rfl rfl) ?_;go_frame;refine Rg.lW 8 (Rg.exec_load (v:=.slice a n c) _ _ rfl ⟨cb,0,none⟩ rfl (Rg.run_loadSl _ _ Tryz.underlying22 C0.out.cell)) ?_;go_frame;refine Rg.lW 9 (exec_len _ _ _ rfl Tryz.underlying22 _ _ _ rfl) ?_;go_frame;refine Rg.lW 10 (exec_bin (R:=.bool false) .lss _ _ _ rfl rfl rfl (b_lss _ (decide_eq_false h1))) ?_;go_frame;refine Rg.lr 11 (exec_pickT (v:=.bool false) _ _ _ rfl rfl rfl) ?_;go_frame;refine Rg.la 3 (.bool false) ?_;go_frame;go_wp2;go_ret;exact ⟨rfl,K.out⟩
  case pos =>
   rw [show decide (0≤i∧i<(n:Int))=true from decide_eq_true ⟨h0,h1⟩]
   go_enter Tryz.func49,Tryz.ntmps49
   go_upto_region 0 with (fail);refine Rg.wl ?_;refine Rg.la 3 (.bool false) ?_;go_frame;go_upto_region 1 with (fail);refine Rg.wl ?_;refine Rg.lm 4 (.int .i64 i) ?_;go_frame;refine Rg.lr 5 (exec_bin (R:=.bool true) .geq _ _ _ rfl rfl rfl (b_geq _ Rg.dT)) ?_;go_frame;refine Rg.lm 6 (.bool true) ?_;go_frame;refine Rg.lW 7 (Rg.xm (.int .i64 i) _ rfl rfl) ?_;go_frame;refine Rg.lW 8 (Rg.exec_load (v:=.slice a n c) _ _ rfl ⟨cb,0,none⟩ rfl (Rg.run_loadSl _ _ Tryz.underlying22 C0.out.cell)) ?_;go_frame;refine Rg.lW 9 (exec_len _ _ _ rfl Tryz.underlying22 _ _ _ rfl) ?_;go_frame;refine Rg.lW 10 (exec_bin (R:=.bool true) .lss _ _ _ rfl rfl rfl (b_lss _ (decide_eq_true h1))) ?_;go_frame;refine Rg.lr 11 (exec_pickT (v:=.bool true) _ _ _ rfl rfl rfl) ?_;go_frame;refine Rg.la 3 (.bool true) ?_;go_frame;go_wp2;go_ret;exact ⟨rfl,K.out⟩
def RnPost (d:Int) (ll:List (List Int)) (S:List Stp) (w:World) (ed:Ending) (w':World):Prop:=∃ v l c,ed=.returned (.tuple #[v,.int .i64 c])∧RnV d ll S l c∧Rg.Ints w' v l∧Below w.heap.size w w'
theorem fcRun_any (gv sv:Value) (d:Int) (ll:List (List Int)) (S:List Stp) (w:World) (h:Rg.Rows w gv ll) (hs:StA w sv S) (hsl:S.length≤100000) :
  Calls Tryz.prog 16 #[.agg #[.int .i64 d,gv],sv] w (RnPost d ll S w):=by
 obtain ⟨sa,sc,rfl,-⟩:=hs.st;have SA0:=ι hs;clear hs;obtain ⟨ga,gc,rfl,hga,hba⟩:=GI.enter (d) h;have K:=ι hba;have G0:=ι hga;clear h hga hba;obtain ⟨ck,hck⟩:∃ c,Hid (Ma.gchk d ll=c):=⟨_,ι rfl⟩;replace SA0:=ι (SA0.out.below ((Below.refl _ _).alloc (Nat.le_refl _) (.cells #[.int .i64 d,.slice ga ll.length gc] 24)))
 go_enter Tryz.func16,Tryz.ntmps16
 go_upto_region 0 with (fail);refine Rg.wl ?_;refine Rg.lr 2 (Rg.exec_box _ _ rfl rfl) ?_;go_frame;refine Rg.la 4 (.slice none 0 0) ?_;go_frame;refine Rg.la 5 (.int .i64 0) ?_;go_frame;obtain ⟨gb,hgb⟩:∃ gb,w.heap.size=gb:=⟨_,rfl⟩;rw [hgb] at G0 ⊢;generalize w.alloc (.cells #[.int .i64 d,.slice ga ll.length gc] 24)=w0 at *;clear hgb;go_upto_region 1 with (fail);refine Rg.wl ?_;refine Rg.lr 11 (Rg.exec_load (v:=.agg #[.int .i64 d,.slice ga ll.length gc]) _ _ rfl ⟨gb,0,none⟩ rfl (run_loadG G0.out.c0 G0.out.c1)) ?_;go_frame;refine Rg.lk 12 (exec_fn1 40 _ _ rfl rfl (Wbcl0 _ _)) ?_;refine (orbitCheck_any _ d ll w0 G0.out.rows).mono ?_;rintro e1 w1 ⟨rfl,hb⟩;rw [hck.out];refine ⟨_,rfl,?_⟩;go_frame;replace G0:=ι (G0.out.below hb);replace SA0:=ι (SA0.out.below hb);replace K:=ι (Rg.acc K.out hb);clear hb;refine Rg.la 6 (.int .i64 ck) ?_;go_frame
 by_cases h0:ck=0
 case neg =>
  skip
  go_upto_region 2 with (fail);refine Rg.wl ?_;refine Rg.lm 13 (.int .i64 ck) ?_;go_frame;refine Rg.lr 14 (exec_bin (R:=.bool true) .neq _ _ _ rfl rfl rfl (b_neqB _ (decide_eq_true h0))) ?_;go_frame;go_upto_region 3 with (fail);refine Rg.wl ?_;refine Rg.lm 15 (.int .i64 ck) ?_;go_frame;refine Rg.la 4 (.slice none 0 0) ?_;go_frame;refine Rg.la 5 (.int .i64 ck) ?_;go_frame;go_wp2
  go_ret2
  exact ⟨_,[],ck,rfl,.inl ⟨by rw [hck.out]; exact h0,hck.out.symm,rfl⟩,ints_nil _,K.out⟩
 case pos =>
  have HZ:=ι (hck.out.trans h0);obtain ⟨D,gs,rfl,rfl,hgg,hn1,hn2,hgl⟩:=gchk_ok HZ.out;have HGD:=ι (show ∀ s∈gs,Gd D s from fun s hs=>hgg s hs);have HGL:=ι hgl;clear hgg hck;go_upto_region 2 with (fail);refine Rg.wl ?_;refine Rg.lm 13 (.int .i64 ck) ?_;go_frame;refine Rg.lr 14 (exec_bin (R:=.bool false) .neq _ _ _ rfl rfl rfl (b_neqB _ (decide_eq_false (fun e=>e h0)))) ?_;go_frame;clear h0
  by_cases hlong:5000<S.length
  case pos =>
   skip
   go_upto_region 4 with (fail);refine Rg.wl ?_;refine Rg.lm 16 (.slice sa S.length sc) ?_;go_frame;refine Rg.lr 17 (exec_len _ _ _ rfl Tryz.underlying36 _ _ _ rfl) ?_;go_frame;refine Rg.lr 18 (exec_bin (R:=.bool true) .gtr _ _ _ rfl rfl rfl (b_gtr _ Rg.dT)) ?_;go_frame;go_upto_region 5 with (fail);refine Rg.wl ?_;refine Rg.la 4 (.slice none 0 0) ?_;go_frame;refine Rg.la 5 (.int .i64 ((4:Nat):Int)) ?_;go_frame;go_wp2
   go_ret2
   exact ⟨_,[],4,rfl,.inr (.inl ⟨HZ.out,hlong,rfl,rfl⟩),ints_nil _,K.out⟩
  case neg =>
   have hul:S.length≤5000:=by omega
   clear hlong hsl;go_upto_region 4 with (fail);refine Rg.wl ?_;refine Rg.lm 16 (.slice sa S.length sc) ?_;go_frame;refine Rg.lr 17 (exec_len _ _ _ rfl Tryz.underlying36 _ _ _ rfl) ?_;go_frame;refine Rg.lr 18 (exec_bin (R:=.bool false) .gtr _ _ _ rfl rfl rfl (b_gtr _ Rg.dF)) ?_;go_frame;have G1:=G0;have SA1:=SA0;have K0:=K;clear K;have K:=ι (Below.refl w1.heap.size w1);go_upto_region 6 with (fail);refine Rg.wl ?_;refine Rg.lr 19 (exec_fieldG _ rfl rfl) ?_;go_frame;refine Rg.lr 20 (Rg.exec_load (v:=.slice ga (gs.map Ma.ofN).length gc) _ _ rfl ⟨gb,1,none⟩ rfl (Rg.run_loadSl _ _ Tryz.underlying22 G0.out.c1)) ?_;go_frame;refine Rg.lk 21 (exec_fn1 48 _ _ rfl rfl (Bqcl1 _ _)) ?_;refine (ClonePs_any _ gs w1 G0.out.rows (by omega)).mono ?_;rintro e1 w2 ⟨cv,rfl,hcv,hb⟩
   obtain ⟨ca,cc,hsh⟩:∃ a c,cv=.slice a gs.length c:=by obtain ⟨us,h1,h2⟩:=hcv.own; exact Rg.row_shape h1
   subst hsh;refine ⟨_,rfl,?_⟩;go_frame;replace G0:=ι (G0.out.below hb);replace SA0:=ι (SA0.out.below hb);replace K:=ι (Rg.acc K.out hb);clear hb;have HCB:=ι K.out.size;refine Rg.lr 7 (exec_allocPs rfl) ?_;go_frame;refine Rg.list_skip none rfl rfl (Rg.exec_store _ _ _ rfl _ rfl _ rfl (Rg.run_storeSl _ infoPermsV (by rw [Rg.cellNew]; rfl) (frozenNewN _ _ _ 0 _))) ?_;go_frame;have hbx:=boxPs w2 (.slice ca gs.length cc) 22;have hrm:=RnM.start hcv (fun _ g=>g) hbx.2 (Nat.le_refl _) hbx.1.lt;have hb:=hbx.2;generalize (w2.alloc (.cells #[.slice none 0 0] 22)).setCell ⟨w2.heap.size,0,none⟩ (.slice ca gs.length cc)=w3 at *;replace G0:=ι (G0.out.below hb);replace SA0:=ι (SA0.out.below hb);replace K:=ι (Rg.acc K.out hb);clear hb;have CC:=ι hbx.1;have RM:=ι hrm;clear hbx hrm hcv;obtain ⟨cb,hcb⟩:∃ b,w2.heap.size=b:=⟨_,rfl⟩;rw [hcb] at RM CC HCB ⊢;clear hcb;go_upto_region 7 with (fail)
   refine Rg.wl ?_;refine Rg.lr 22 (exec_makeFunc 49 _ rfl rfl) ?_;go_frame;refine Rg.la 8 ((.func (.func 49) #[] #[.pointer (some ⟨cb,0,none⟩)])) ?_;go_frame;go_upto_region 8 with (fail);refine Rg.wl ?_;refine Rg.lm 23 (.slice sa S.length sc) ?_;go_frame;refine Rg.lr 24 (exec_len _ _ _ rfl Tryz.underlying36 _ _ _ rfl) ?_;go_frame;refine Rg.lm 25 (.int .i64 ((0:Nat):Int)) ?_;go_frame;have RG:=ι (show RnG D gs gs 0 from ⟨rfl,HGD.out⟩);have RE:=ι (show rn (S.drop 0) gs=rn S gs from rfl);clear G0 SA0;go_wp2
   go_loopw [25] (fun iv wr=>∃ (i:Nat) (T:List (List Nat)) (fv:Value),iv=.int .i64 ((i:Nat):Int)∧i≤S.length∧Hid (CW wr cb fv)∧Hid (RnM w1.heap.size wr cb fv T)∧Hid (rn (S.drop i) T=rn S gs)∧Hid (RnG D gs T i)∧Hid (Below w1.heap.size w1 wr)) (fun iv _=>S.length - (intOf iv).toNat)
   case atStart=>exact ⟨0,gs,_,rfl,Nat.zero_le _,CC,RM,RE,RG,K⟩
   case round =>
    clear CC RM RE RG K;obtain ⟨i,T,fv,rfl,hi,CC,RM,RE,RG,K⟩:=hrel;have G0:=ι (G1.out.below K.out);have SA0:=ι (SA1.out.below K.out);obtain ⟨fa,fc,hsh⟩:=RM.out.shape;subst hsh
    have htl:T.length≤5016:=by have:=RG.out.ln; have:=HGL.out; omega
    by_cases hil:i<S.length
    case neg =>
     have HRN:=ι (show rn S gs=(0,T) by rw [← RE.out,List.drop_eq_nil_of_le (by omega)]; rfl);have KL:=ι (Rg.acc K0.out K.out);go_upto_region 9 with (fail);refine Rg.wl ?_;refine Rg.lr 26 (exec_bin (R:=.bool false) .lss _ _ _ rfl rfl rfl (b_lss _ Rg.dF)) ?_;go_frame
     by_cases hz:S.length=0
     case pos =>
      skip
      go_upto_region 19 with (fail);refine Rg.wl ?_;refine Rg.lm 84 (.slice sa S.length sc) ?_;go_frame;refine Rg.lr 85 (exec_len _ _ _ rfl Tryz.underlying36 _ _ _ rfl) ?_;go_frame;refine Rg.lr 86 (exec_bin (R:=.bool true) .eql _ _ _ rfl rfl rfl (b_eql _ Rg.dT)) ?_;go_frame;go_upto_region 20 with (fail);refine Rg.wl ?_;refine Rg.lr 87 (exec_fieldG0 _ rfl rfl) ?_;go_frame;refine Rg.lr 88 (Rg.exec_load (v:=.int .i64 ((D:Nat):Int)) _ _ rfl ⟨gb,0,none⟩ rfl (run_loadInt G0.out.c0)) ?_;go_frame;refine Rg.lk 89 (exec_fn1 42 _ _ rfl rfl (Bgcl4 _ _)) ?_;refine (fcOne_any D wr (by omega)).mono ?_;rintro e1 w34 ⟨ov,rfl,hov,hb⟩;refine ⟨_,rfl,?_⟩;go_frame;replace CC:=ι (CC.out.below hb);replace RM:=ι (RM.out.below hb);replace G0:=ι (G0.out.below hb);replace SA0:=ι (SA0.out.below hb);replace KL:=ι (Rg.acc KL.out hb);clear hb;refine Rg.la 4 (ov) ?_;go_frame;refine Rg.la 5 (.int .i64 ((0:Nat):Int)) ?_;go_frame
      go_wp2
      go_ret2
      exact ⟨_,_,0,rfl,.inr (.inr ⟨HZ.out,hul,D,gs,rfl,rfl,by rw [HRN.out],.inr ⟨rfl,by rw [if_pos hz]⟩⟩),hov.1,KL.out⟩
     case neg =>
      obtain ⟨x,hx⟩:∃ x,Hid (T[T.length - 1]?=some x):=⟨_,ι (List.getElem?_eq_getElem (by have:=RG.out.ln; omega))⟩;have HTP:=ι (show 1≤T.length by have:=RG.out.ln; omega);have htp1:1≤T.length:=HTP.out;obtain ⟨fb,fo,fc9,uv,e1,hcu,heu⟩:=RM.out.at (by omega) (i:=T.length - 1) (by have:=HTP.out; omega) hx.out;simp only [Value.slice.injEq,true_and] at e1;obtain ⟨rfl,rfl⟩:=e1;have CU:=ι hcu;have EU:=ι heu;clear hcu heu;go_upto_region 19 with (fail);refine Rg.wl ?_;refine Rg.lm 84 (.slice sa S.length sc) ?_;go_frame;refine Rg.lr 85 (exec_len _ _ _ rfl Tryz.underlying36 _ _ _ rfl) ?_;go_frame;refine Rg.lr 86 (exec_bin (R:=.bool false) .eql _ _ _ rfl rfl rfl (b_eql _ Rg.dF)) ?_;go_frame;go_upto_region 21 with (fail);refine Rg.wl ?_;refine Rg.lr 90 (Rg.exec_load (v:=.slice (some ⟨fb,fo,none⟩) T.length fc) _ _ rfl ⟨cb,0,none⟩ rfl (Rg.run_loadSl _ _ Tryz.underlying22 CC.out.c)) ?_;go_frame
      refine Rg.lr 91 (Rg.exec_load (v:=.slice (some ⟨fb,fo,none⟩) T.length fc) _ _ rfl ⟨cb,0,none⟩ rfl (Rg.run_loadSl _ _ Tryz.underlying22 CC.out.c)) ?_;go_frame;refine Rg.lr 92 (exec_len _ _ _ rfl Tryz.underlying22 _ _ _ rfl) ?_;go_frame;refine Rg.lr 93 (exec_bin (R:=.int .i64 (((T.length - 1):Nat):Int)) .sub _ _ _ rfl rfl rfl (b_sub _ (by omega) (by omega))) ?_;go_frame;refine Rg.lr 94 (exec_indexS slPerms _ _ rfl fb (fo) (T.length) fc ((T.length - 1)) rfl rfl (by have:=HTP.out; omega)) ?_;go_frame;refine Rg.lr 95 (Rg.exec_load (v:=uv) _ _ rfl ⟨fb,fo+(T.length - 1),none⟩ rfl (Rg.run_loadSl _ _ Tryz.underlying30 CU.out.cell)) ?_;go_frame;refine Rg.la 4 (uv) ?_;go_frame;refine Rg.la 5 (.int .i64 ((0:Nat):Int)) ?_;go_frame;go_wp2
      go_ret2
      exact ⟨_,_,0,rfl,.inr (.inr ⟨HZ.out,hul,D,gs,rfl,rfl,by rw [HRN.out],.inr ⟨rfl,by rw [if_neg hz,HRN.out]; show Ma.ofN x=Ma.ofN (T.getD (T.length - 1) []); rw [List.getD_eq_getElem?_getD,hx.out]; rfl⟩⟩),EU.out.ints,KL.out⟩
    case pos =>
     obtain ⟨sa2,sc2,e1,hst⟩:=SA0.out.st;simp only [Value.slice.injEq,true_and] at e1;obtain ⟨rfl,rfl⟩:=e1;obtain ⟨sb,so,e1,hsb,hsc⟩:=hst (by omega);subst e1;obtain ⟨hc0,hc1,hc2⟩:=hsc i hil;obtain ⟨s,hs⟩:∃ s,Hid (S[i]'hil=s):=⟨_,ι rfl⟩;rw [hs.out] at hc0 hc1 hc2;obtain ⟨x,y,z⟩:=s;have HD:=ι (show S.drop i=(x,y,z) :: S.drop (i+1) by rw [List.drop_eq_getElem_cons hil,hs.out]);have A0:=ι (CL.mk hc0 hsb);have A1:=ι (CL.mk hc1 hsb);have A2:=ι (CL.mk hc2 hsb);have HIL:=ι hil;have HRC:=ι (fun (h:rnC T (x,y,z)≠0)=>show rn S gs=(rnC T (x,y,z),T) by rw [← RE.out,HD.out]; exact rn_bad h);have HRO:=ι (fun (h:rnC T (x,y,z)=0)=>show rn (S.drop (i+1)) (T++[rnE T (x,y,z)])=rn S gs by rw [← RE.out,HD.out]; exact (rn_ok h).symm);clear hst hsc hc0 hc1 hc2 hsb;go_upto_region 9 with (fail);refine Rg.wl ?_;refine Rg.lr 26 (exec_bin (R:=.bool true) .lss _ _ _ rfl rfl rfl (b_lss _ Rg.dT)) ?_;go_frame
     have HXN:=ι (fun q (e:(Value.slice fa T.length fc).ownBlock=some q)=>(show q≠wr.heap.size from by have:=(RM.out.lt1 q e).2; omega));go_upto_region 10 with (fail);refine Rg.wl ?_;refine Rg.lr 27 (exec_indexZ _ _ rfl Tryz.underlying36 szStp sb (so) (S.length) (sc) (i) rfl rfl HIL.out) ?_;go_frame;refine Rg.lr 28 (Rg.exec_load (v:=(.agg #[.int .i64 x,.int .i64 y,.int .i64 z])) _ _ rfl ⟨sb,so+i*3,none⟩ rfl (run_loadSt A0.out.cell A1.out.cell A2.out.cell)) ?_;go_frame;obtain ⟨Xs,hst,hx0,hx1,hx2,hb⟩:=boxSt wr x y z;refine Rg.lr 10 (exec_allocSt rfl) ?_;go_frame;refine Rg.list_skip none rfl rfl (Rg.exec_store _ _ _ rfl _ rfl _ rfl hst) ?_;go_frame;replace CC:=ι (CC.out.below hb);replace RM:=ι (RM.out.below hb);replace G0:=ι (G0.out.below hb);replace SA0:=ι (SA0.out.below hb);replace A0:=ι (A0.out.below hb);replace A1:=ι (A1.out.below hb);replace A2:=ι (A2.out.below hb)
     replace K:=ι (Rg.acc K.out hb);clear hb;have B0:=ι hx0;have B1:=ι hx1;have B2:=ι hx2;clear hst hx0 hx1 hx2 A0 A1 A2 SA0 G0;obtain ⟨xb,hxb⟩:∃ b,wr.heap.size=b:=⟨_,rfl⟩;rw [hxb] at B0 B1 B2 HXN ⊢;clear hxb
     by_cases hx1:x=1
     case pos =>
      by_cases hy:0≤y∧y<(T.length:Int)
      case neg =>
       skip
       go_upto_region 12 with (fail);refine Rg.wl ?_;refine Rg.lr 39 (exec_field _ rfl rfl (stG0 _ _)) ?_;go_frame;refine Rg.lr 40 (Rg.exec_load (v:=.int .i64 x) _ _ rfl ⟨xb,0,none⟩ rfl (run_loadInt B0.out.cell)) ?_;go_frame;refine Rg.lr 41 (exec_bin (R:=.bool false) .neq _ _ _ rfl rfl rfl (b_neqB _ (decide_eq_false (fun e=>e hx1)))) ?_;go_frame;refine Rg.lm 42 (.bool false) ?_;go_frame;refine listW_pass (some 43) (by kernel_rfl) rfl ?_;go_frame;refine listW_pass (some 44) (by kernel_rfl) rfl ?_;go_frame;refine listW_pass (some 45) (by kernel_rfl) rfl ?_;go_frame;refine Rg.lr 46 (exec_pickF (v:=.bool false) _ _ _ rfl rfl rfl) ?_;go_frame;refine Rg.la 38 (.bool false) ?_;go_frame;go_upto_region 14 with (fail);refine Rg.wl ?_;refine Rg.lm 48 ((.func (.func 49) #[] #[.pointer (some ⟨cb,0,none⟩)])) ?_;go_frame;refine Rg.lr 49 (exec_field _ rfl rfl (stG1 _ _)) ?_;go_frame;refine Rg.lr 50 (Rg.exec_load (v:=.int .i64 y) _ _ rfl ⟨xb,1,none⟩ rfl (run_loadInt B1.out.cell)) ?_;go_frame
       refine Rg.lk 51 (exec_fnc1 49 _ _ _ rfl rfl rfl (clRun1 _ _)) ?_;refine (run1_any (i:=y) (CL.mk CC.out.c CC.out.lt)).mono ?_;rintro e1 w94 ⟨rfl,hb⟩;rw [show decide (0≤y∧y<(T.length:Int))=false from decide_eq_false hy];refine ⟨_,rfl,?_⟩;go_frame;replace CC:=ι (CC.out.below hb);replace RM:=ι (RM.out.below hb);replace B0:=ι (B0.out.below hb);replace B1:=ι (B1.out.below hb);replace B2:=ι (B2.out.below hb);replace K:=ι (Rg.acc K.out hb);clear hb;refine Rg.lr 52 (exec_not _ _ false rfl rfl) ?_;go_frame;refine Rg.lm 53 (.bool true) ?_;go_frame;refine listW_pass (some 54) (by kernel_rfl) rfl ?_;go_frame;refine listW_pass (some 55) (by kernel_rfl) rfl ?_;go_frame;refine listW_pass (some 56) (by kernel_rfl) rfl ?_;go_frame;refine listW_pass (some 57) (by kernel_rfl) rfl ?_;go_frame;refine listW_pass (some 58) (by kernel_rfl) rfl ?_;go_frame;refine listW_pass (some 59) (by kernel_rfl) rfl ?_;go_frame
       refine listW_pass (some 60) (by kernel_rfl) rfl ?_;go_frame;refine listW_pass (some 61) (by kernel_rfl) rfl ?_;go_frame;refine listW_pass (some 62) (by kernel_rfl) rfl ?_;go_frame;refine listW_pass (some 63) (by kernel_rfl) rfl ?_;go_frame;refine Rg.lr 64 (exec_pickT (v:=.bool true) _ _ _ rfl rfl rfl) ?_;go_frame;refine Rg.la 47 (.bool true) ?_;go_frame;go_upto_region 15 with (fail);refine Rg.wl ?_;refine Rg.la 4 (.slice none 0 0) ?_;go_frame;refine Rg.la 5 (.int .i64 ((2:Nat):Int)) ?_;go_frame;go_wp2
       go_ret2
       exact ⟨_,[],2,rfl,.inr (.inr ⟨HZ.out,hul,D,gs,rfl,rfl,by rw [HRC.out (by rw [rnC_a (s:=(x,y,z)) (.inl hx1) hy]; decide),rnC_a (s:=(x,y,z)) (.inl hx1) hy],.inl ⟨by decide,rfl⟩⟩),ints_nil _,Rg.acc K0.out K.out⟩
      case pos =>
       by_cases hz:0≤z∧z<(T.length:Int)
       case neg =>
        skip
        go_upto_region 12 with (fail);refine Rg.wl ?_;refine Rg.lr 39 (exec_field _ rfl rfl (stG0 _ _)) ?_;go_frame;refine Rg.lr 40 (Rg.exec_load (v:=.int .i64 x) _ _ rfl ⟨xb,0,none⟩ rfl (run_loadInt B0.out.cell)) ?_;go_frame;refine Rg.lr 41 (exec_bin (R:=.bool false) .neq _ _ _ rfl rfl rfl (b_neqB _ (decide_eq_false (fun e=>e hx1)))) ?_;go_frame;refine Rg.lm 42 (.bool false) ?_;go_frame;refine listW_pass (some 43) (by kernel_rfl) rfl ?_;go_frame;refine listW_pass (some 44) (by kernel_rfl) rfl ?_;go_frame;refine listW_pass (some 45) (by kernel_rfl) rfl ?_;go_frame;refine Rg.lr 46 (exec_pickF (v:=.bool false) _ _ _ rfl rfl rfl) ?_;go_frame;refine Rg.la 38 (.bool false) ?_;go_frame;go_upto_region 14 with (fail);refine Rg.wl ?_;refine Rg.lm 48 ((.func (.func 49) #[] #[.pointer (some ⟨cb,0,none⟩)])) ?_;go_frame;refine Rg.lr 49 (exec_field _ rfl rfl (stG1 _ _)) ?_;go_frame;refine Rg.lr 50 (Rg.exec_load (v:=.int .i64 y) _ _ rfl ⟨xb,1,none⟩ rfl (run_loadInt B1.out.cell)) ?_;go_frame
        refine Rg.lk 51 (exec_fnc1 49 _ _ _ rfl rfl rfl (clRun1 _ _)) ?_;refine (run1_any (i:=y) (CL.mk CC.out.c CC.out.lt)).mono ?_;rintro e1 w125 ⟨rfl,hb⟩;rw [show decide (0≤y∧y<(T.length:Int))=true from decide_eq_true hy];refine ⟨_,rfl,?_⟩;go_frame;replace CC:=ι (CC.out.below hb);replace RM:=ι (RM.out.below hb);replace B0:=ι (B0.out.below hb);replace B1:=ι (B1.out.below hb);replace B2:=ι (B2.out.below hb);replace K:=ι (Rg.acc K.out hb);clear hb;refine Rg.lr 52 (exec_not _ _ true rfl rfl) ?_;go_frame;refine Rg.lm 53 (.bool false) ?_;go_frame;refine Rg.lW 54 (exec_field _ rfl rfl (stG0 _ _)) ?_;go_frame;refine Rg.lW 55 (Rg.exec_load (v:=.int .i64 x) _ _ rfl ⟨xb,0,none⟩ rfl (run_loadInt B0.out.cell)) ?_;go_frame;refine Rg.lW 56 (exec_bin (R:=.bool true) .eql _ _ _ rfl rfl rfl (b_eql _ (decide_eq_true hx1))) ?_;go_frame;refine Rg.lW 57 (Rg.xm (.bool true) _ rfl rfl) ?_;go_frame
        refine Rg.lW 58 (Rg.xm ((.func (.func 49) #[] #[.pointer (some ⟨cb,0,none⟩)])) _ rfl rfl) ?_;go_frame;refine Rg.lW 59 (exec_field _ rfl rfl (stG2 _ _)) ?_;go_frame;refine Rg.lW 60 (Rg.exec_load (v:=.int .i64 z) _ _ rfl ⟨xb,2,none⟩ rfl (run_loadInt B2.out.cell)) ?_;go_frame;refine listW_ask (some 61) rfl rfl _ _ (exec_fnc1 49 _ _ _ rfl rfl rfl (clRun1 _ _)) ?_;refine (run1_any (i:=z) (CL.mk CC.out.c CC.out.lt)).mono ?_;rintro e1 w126 ⟨rfl,hb⟩;rw [show decide (0≤z∧z<(T.length:Int))=false from decide_eq_false hz];refine ⟨_,rfl,?_⟩;go_frame;replace CC:=ι (CC.out.below hb);replace RM:=ι (RM.out.below hb);replace B0:=ι (B0.out.below hb);replace B1:=ι (B1.out.below hb);replace B2:=ι (B2.out.below hb);replace K:=ι (Rg.acc K.out hb);clear hb;refine Rg.lW 62 (exec_not _ _ false rfl rfl) ?_;go_frame;refine Rg.lW 63 (exec_pickT (v:=.bool true) _ _ _ rfl rfl rfl) ?_;go_frame
        refine Rg.lr 64 (exec_pickF (v:=.bool true) _ _ _ rfl rfl rfl) ?_;go_frame;refine Rg.la 47 (.bool true) ?_;go_frame;go_upto_region 15 with (fail);refine Rg.wl ?_;refine Rg.la 4 (.slice none 0 0) ?_;go_frame;refine Rg.la 5 (.int .i64 ((2:Nat):Int)) ?_;go_frame;go_wp2
        go_ret2
        exact ⟨_,[],2,rfl,.inr (.inr ⟨HZ.out,hul,D,gs,rfl,rfl,by rw [HRC.out (by rw [rnC_b (s:=(x,y,z)) hx1 hz]; decide),rnC_b (s:=(x,y,z)) hx1 hz],.inl ⟨by decide,rfl⟩⟩),ints_nil _,Rg.acc K0.out K.out⟩
       case pos =>
        skip
        go_upto_region 12 with (fail);refine Rg.wl ?_;refine Rg.lr 39 (exec_field _ rfl rfl (stG0 _ _)) ?_;go_frame;refine Rg.lr 40 (Rg.exec_load (v:=.int .i64 x) _ _ rfl ⟨xb,0,none⟩ rfl (run_loadInt B0.out.cell)) ?_;go_frame;refine Rg.lr 41 (exec_bin (R:=.bool false) .neq _ _ _ rfl rfl rfl (b_neqB _ (decide_eq_false (fun e=>e hx1)))) ?_;go_frame;refine Rg.lm 42 (.bool false) ?_;go_frame;refine listW_pass (some 43) (by kernel_rfl) rfl ?_;go_frame;refine listW_pass (some 44) (by kernel_rfl) rfl ?_;go_frame;refine listW_pass (some 45) (by kernel_rfl) rfl ?_;go_frame;refine Rg.lr 46 (exec_pickF (v:=.bool false) _ _ _ rfl rfl rfl) ?_;go_frame;refine Rg.la 38 (.bool false) ?_;go_frame;go_upto_region 14 with (fail);refine Rg.wl ?_;refine Rg.lm 48 ((.func (.func 49) #[] #[.pointer (some ⟨cb,0,none⟩)])) ?_;go_frame;refine Rg.lr 49 (exec_field _ rfl rfl (stG1 _ _)) ?_;go_frame;refine Rg.lr 50 (Rg.exec_load (v:=.int .i64 y) _ _ rfl ⟨xb,1,none⟩ rfl (run_loadInt B1.out.cell)) ?_;go_frame
        refine Rg.lk 51 (exec_fnc1 49 _ _ _ rfl rfl rfl (clRun1 _ _)) ?_;refine (run1_any (i:=y) (CL.mk CC.out.c CC.out.lt)).mono ?_;rintro e1 w157 ⟨rfl,hb⟩;rw [show decide (0≤y∧y<(T.length:Int))=true from decide_eq_true hy];refine ⟨_,rfl,?_⟩;go_frame;replace CC:=ι (CC.out.below hb);replace RM:=ι (RM.out.below hb);replace B0:=ι (B0.out.below hb);replace B1:=ι (B1.out.below hb);replace B2:=ι (B2.out.below hb);replace K:=ι (Rg.acc K.out hb);clear hb;refine Rg.lr 52 (exec_not _ _ true rfl rfl) ?_;go_frame;refine Rg.lm 53 (.bool false) ?_;go_frame;refine Rg.lW 54 (exec_field _ rfl rfl (stG0 _ _)) ?_;go_frame;refine Rg.lW 55 (Rg.exec_load (v:=.int .i64 x) _ _ rfl ⟨xb,0,none⟩ rfl (run_loadInt B0.out.cell)) ?_;go_frame;refine Rg.lW 56 (exec_bin (R:=.bool true) .eql _ _ _ rfl rfl rfl (b_eql _ (decide_eq_true hx1))) ?_;go_frame;refine Rg.lW 57 (Rg.xm (.bool true) _ rfl rfl) ?_;go_frame
        refine Rg.lW 58 (Rg.xm ((.func (.func 49) #[] #[.pointer (some ⟨cb,0,none⟩)])) _ rfl rfl) ?_;go_frame;refine Rg.lW 59 (exec_field _ rfl rfl (stG2 _ _)) ?_;go_frame;refine Rg.lW 60 (Rg.exec_load (v:=.int .i64 z) _ _ rfl ⟨xb,2,none⟩ rfl (run_loadInt B2.out.cell)) ?_;go_frame;refine listW_ask (some 61) rfl rfl _ _ (exec_fnc1 49 _ _ _ rfl rfl rfl (clRun1 _ _)) ?_;refine (run1_any (i:=z) (CL.mk CC.out.c CC.out.lt)).mono ?_;rintro e1 w158 ⟨rfl,hb⟩;rw [show decide (0≤z∧z<(T.length:Int))=true from decide_eq_true hz];refine ⟨_,rfl,?_⟩;go_frame;replace CC:=ι (CC.out.below hb);replace RM:=ι (RM.out.below hb);replace B0:=ι (B0.out.below hb);replace B1:=ι (B1.out.below hb);replace B2:=ι (B2.out.below hb);replace K:=ι (Rg.acc K.out hb);clear hb;refine Rg.lW 62 (exec_not _ _ true rfl rfl) ?_;go_frame;refine Rg.lW 63 (exec_pickT (v:=.bool false) _ _ _ rfl rfl rfl) ?_;go_frame
        refine Rg.lr 64 (exec_pickF (v:=.bool false) _ _ _ rfl rfl rfl) ?_;go_frame;refine Rg.la 47 (.bool false) ?_;go_frame;go_upto_region 16 with (fail);refine Rg.wl ?_;refine Rg.lr 66 (exec_field _ rfl rfl (stG0 _ _)) ?_;go_frame;refine Rg.lr 67 (Rg.exec_load (v:=.int .i64 x) _ _ rfl ⟨xb,0,none⟩ rfl (run_loadInt B0.out.cell)) ?_;go_frame;refine Rg.lr 68 (exec_bin (R:=.bool true) .eql _ _ _ rfl rfl rfl (b_eql _ (decide_eq_true hx1))) ?_;go_frame;refine Rg.la 65 (.bool true) ?_;go_frame;obtain ⟨j,rfl⟩:∃ j:Nat,y=((j:Nat):Int):=⟨y.toNat,by omega⟩;have HJ:=ι (show j<T.length by omega);obtain ⟨xj,hxj⟩:∃ q,Hid (T[j]?=some q):=⟨_,ι (List.getElem?_eq_getElem HJ.out)⟩;have GJ:=ι (RG.out.gd xj (List.mem_of_getElem? hxj.out));obtain ⟨k,rfl⟩:∃ k:Nat,z=((k:Nat):Int):=⟨z.toNat,by omega⟩;have HK:=ι (show k<T.length by omega);obtain ⟨xk,hxk⟩:∃ q,Hid (T[k]?=some q):=⟨_,ι (List.getElem?_eq_getElem HK.out)⟩
        have GK:=ι (RG.out.gd xk (List.mem_of_getElem? hxk.out));obtain ⟨fbj,foj,fcj,uj,ej,hcu,heu⟩:=RM.out.at (by omega) HJ.out hxj.out;simp only [Value.slice.injEq,true_and] at ej;obtain ⟨rfl,rfl⟩:=ej;have CJ:=ι hcu;have EJ:=ι heu;clear hcu heu;obtain ⟨fbk,fok,fck,uk,ek,hcu,heu⟩:=RM.out.at (by omega) HK.out hxk.out;simp only [Value.slice.injEq,true_and,Option.some.injEq,Addr.mk.injEq,and_true] at ek;obtain ⟨⟨rfl,rfl⟩,rfl⟩:=ek;have CK:=ι hcu;have EK:=ι heu;clear hcu heu;have HC0:=ι (show rnC T (x,((j:Nat):Int),((k:Nat):Int))=0 from rnC_m hx1 hy hz);have HE0:=ι (show rnE T (x,((j:Nat):Int),((k:Nat):Int))=Ma.mulN xj xk from rnE_m hx1 (by show T[(((j:Nat):Int)).toNat]?=_; rw [Int.toNat_natCast]; exact hxj.out) (by show T[(((k:Nat):Int)).toNat]?=_; rw [Int.toNat_natCast]; exact hxk.out));go_upto_region 17 with (fail)
        have hV1:Below w158.heap.size w158 w158.drew:=(Below.refl _ _).drew;replace CC:=ι (CC.out.below hV1);replace RM:=ι (RM.out.below hV1);replace B1:=ι (B1.out.below hV1);replace B2:=ι (B2.out.below hV1);replace CJ:=ι (CJ.out.below hV1);replace EJ:=ι (EJ.out.below hV1);replace K:=ι (Rg.acc K.out hV1);replace CK:=ι (CK.out.below hV1);replace EK:=ι (EK.out.below hV1);clear hV1;refine Rg.Any.begin (S:=Rg.Tw 14 (fun W:World=>W.cell? ⟨cb,0,none⟩=some (.slice (some ⟨fbj,foj,none⟩) T.length fc)∧W.cell? ⟨xb,1,none⟩=some (.int .i64 ((j:Nat):Int))∧W.cell? ⟨xb,2,none⟩=some (.int .i64 ((k:Nat):Int))) 11 (fun W=>Below w158.drew.heap.size w158.drew W)) mix ?_;generalize w158.drew=w159 at *;have hS:∀ l:Array Bool,Rg.Tw 14 (fun W:World=>W.cell? ⟨cb,0,none⟩=some (.slice (some ⟨fbj,foj,none⟩) T.length fc)∧W.cell? ⟨xb,1,none⟩=some (.int .i64 ((j:Nat):Int))∧W.cell? ⟨xb,2,none⟩=some (.int .i64 ((k:Nat):Int))) 11 (fun W=>Below w159.heap.size w159 W) l w159:=fun l=>⟨.inr ⟨CC.out.c,B1.out.cell,B2.out.cell⟩,.inr (Below.refl _ _)⟩
        refine Rg.Any.takeA (i:=0) (t:=14) (u:=11) (v:=.slice (some ⟨fbj,foj,none⟩) T.length fc) (some 69) rfl rfl (by kernel_rfl) (by kernel_rfl) (by kernel_rfl) (fun _ _ _ h=>h) rfl rfl (by kernel_rfl) rfl (Rg.yields_cell _ _ rfl rfl ⟨cb,0,none⟩ rfl (fun W hW=>Rg.run_loadSl _ _ Tryz.underlying22 hW.1)) (hS _) ?_;go_frame;refine Rg.Any.takeA (i:=1) (t:=14) (u:=11) (v:=.slice (some ⟨fbj,foj,none⟩) T.length fc) (some 70) rfl rfl (by kernel_rfl) (by kernel_rfl) (by kernel_rfl) (fun _ _ _ h=>h) rfl rfl (by kernel_rfl) rfl (Rg.yields_cell _ _ rfl rfl ⟨cb,0,none⟩ rfl (fun W hW=>Rg.run_loadSl _ _ Tryz.underlying22 hW.1)) (hS _) ?_;go_frame;refine Rg.Any.takeP (i:=2) (t:=14) (u:=11) (v:=.pointer (some ⟨xb,1,none⟩)) (some 71) rfl rfl (by kernel_rfl) (by kernel_rfl) (by kernel_rfl) (fun _ _ _ h=>h) rfl rfl (.inl ⟨rfl,fun w _=>exec_field _ rfl rfl (stG1 _ _)⟩) (hS _) ?_;go_frame
        refine Rg.Any.takeA (i:=3) (t:=14) (u:=11) (v:=.int .i64 ((j:Nat):Int)) (some 72) rfl rfl (by kernel_rfl) (by kernel_rfl) (by kernel_rfl) (fun _ _ _ h=>h) rfl rfl (by kernel_rfl) rfl (Rg.yields_cell _ _ rfl rfl ⟨xb,1,none⟩ rfl (fun W hW=>run_loadInt hW.2.1)) (hS _) ?_;go_frame;refine Rg.Any.takeP (i:=4) (t:=14) (u:=11) (v:=.pointer (some ⟨fbj,foj+j,none⟩)) (some 73) rfl rfl (by kernel_rfl) (by kernel_rfl) (by kernel_rfl) (fun _ _ _ h=>h) rfl rfl (Rg.yields_index slPerms _ _ rfl rfl fbj (foj) (T.length) fc (j) rfl rfl HJ.out) (hS _) ?_;go_frame;refine Rg.Any.takeB (i:=5) (t:=14) (u:=11) (v:=uj) (some 74) rfl rfl (by kernel_rfl) (by kernel_rfl) (by kernel_rfl) (fun _ _ _ h=>h) rfl rfl (by kernel_rfl) rfl (Rg.yields_cell _ _ rfl rfl ⟨fbj,foj+j,none⟩ rfl (fun W hW=>Rg.run_loadSl _ _ Tryz.underlying30 ((Below.cell (p:=⟨fbj,foj+j,none⟩) hW CJ.out.lt).trans CJ.out.cell))) (hS _) ?_;go_frame
        refine Rg.Any.takeA (i:=6) (t:=14) (u:=11) (v:=.slice (some ⟨fbj,foj,none⟩) T.length fc) (some 75) rfl rfl (by kernel_rfl) (by kernel_rfl) (by kernel_rfl) (fun _ _ _ h=>h) rfl rfl (by kernel_rfl) rfl (Rg.yields_cell _ _ rfl rfl ⟨cb,0,none⟩ rfl (fun W hW=>Rg.run_loadSl _ _ Tryz.underlying22 hW.1)) (hS _) ?_;go_frame;refine Rg.Any.takeP (i:=7) (t:=14) (u:=11) (v:=.pointer (some ⟨xb,2,none⟩)) (some 76) rfl rfl (by kernel_rfl) (by kernel_rfl) (by kernel_rfl) (fun _ _ _ h=>h) rfl rfl (.inl ⟨rfl,fun w _=>exec_field _ rfl rfl (stG2 _ _)⟩) (hS _) ?_;go_frame;refine Rg.Any.takeA (i:=8) (t:=14) (u:=11) (v:=.int .i64 ((k:Nat):Int)) (some 77) rfl rfl (by kernel_rfl) (by kernel_rfl) (by kernel_rfl) (fun _ _ _ h=>h) rfl rfl (by kernel_rfl) rfl (Rg.yields_cell _ _ rfl rfl ⟨xb,2,none⟩ rfl (fun W hW=>run_loadInt hW.2.2)) (hS _) ?_;go_frame;refine Rg.Any.takeP (i:=9) (t:=14) (u:=11) (v:=.pointer (some ⟨fbj,foj+k,none⟩)) (some 78) rfl rfl (by kernel_rfl) (by kernel_rfl) (by kernel_rfl) (fun _ _ _ h=>h) rfl rfl (Rg.yields_index slPerms _ _ rfl rfl fbj (foj) (T.length) fc (k) rfl rfl HK.out) (hS _) ?_;go_frame
        refine Rg.Any.takeB (i:=10) (t:=14) (u:=11) (v:=uk) (some 79) rfl rfl (by kernel_rfl) (by kernel_rfl) (by kernel_rfl) (fun _ _ _ h=>h) rfl rfl (by kernel_rfl) rfl (Rg.yields_cell _ _ rfl rfl ⟨fbj,foj+k,none⟩ rfl (fun W hW=>Rg.run_loadSl _ _ Tryz.underlying30 ((Below.cell (p:=⟨fbj,foj+k,none⟩) hW CK.out.lt).trans CK.out.cell))) (hS _) ?_;go_frame;refine Rg.Any.one (i:=11) (by kernel_rfl) (Rg.Any.ask (some 80) rfl rfl rfl _ _ (exec_fn 44 _ _ _ rfl rfl rfl (Bgcl6 _ _)) ?_);refine (fcMul_any _ _ xj xk w159 EJ.out.np EK.out.np (fun q hq=>by rw [GK.out.2]; exact gd_mem GJ.out hq) (by rw [GJ.out.2]; omega) (by rw [GJ.out.2]; exact hn1) (by rw [GK.out.2]; exact hn1)).mono ?_;rintro e1 w160 ⟨mv,rfl,hmv,hb⟩;have hem:EX w160 cb (.slice (some ⟨fbj,foj,none⟩) T.length fc) mv (Ma.ofN (Ma.mulN xj xk)):=EX.new hmv CC.out.lt (fun q hq=>(RM.out.lt1 q hq).2)
        obtain ⟨ma,mn,mc,hms⟩:∃ a n c,mv=.slice a n c:=by
         obtain ⟨a,c,e,-⟩:=hem.ints.shape;exact ⟨_,_,_,e⟩
        subst hms;have hrm:=RM.out.below hb;have hcw:=CC.out.below hb;have hb1:=B1.out.below hb;have hb2:=B2.out.below hb;have hkk:=Rg.acc K.out hb;clear hb hmv;refine ⟨_,rfl,⟨.inr ⟨hcw.c,hb1.cell,hb2.cell⟩,.inl rfl⟩,?_⟩;go_frame;obtain ⟨a9,c9,X9,r1,hrm2,hkp⟩:=hrm.push hcw.lt hem ⟨_,_,_,rfl⟩ (by omega) 22;have hba:Below w160.heap.size w160 (w160.alloc (.cells #[.slice ma mn mc] 30)):=(Below.refl _ _).alloc (Nat.le_refl _) _;have hcw2:=hcw.below hba;have hb12:=hb1.below hba;have hb22:=hb2.below hba;have hcx:CW X9 cb (.slice (some ⟨fbj,foj,none⟩) T.length fc):=hcw.kp hkp (fun e=>hrm.off e);have hbx1:CL X9 xb 1 (.int .i64 ((j:Nat):Int)):=hb1.kp hkp (fun e=>HXN.out xb e rfl);have hbx2:CL X9 xb 2 (.int .i64 ((k:Nat):Int)):=hb2.kp hkp (fun e=>HXN.out xb e rfl);clear hba;refine Rg.Any.one (i:=12) (by kernel_rfl) (Rg.Any.run (some 81) rfl rfl rfl (Rg.exec_buildSlice _ _ _ rfl (.slice ma mn mc) rfl (run_build1P w160 _ ⟨_,_,_,rfl⟩)) ⟨.inr ⟨hcw2.c,hb12.cell,hb22.cell⟩,.inl rfl⟩ ?_)
        go_frame;refine Rg.Any.one (i:=13) (by kernel_rfl) (Rg.Any.run (some 82) rfl rfl rfl (Rg.exec_append _ _ _ rfl rfl rfl r1) ⟨.inr ⟨hcx.c,hbx1.cell,hbx2.cell⟩,.inl rfl⟩ ?_);go_frame;refine Rg.Any.one (i:=14) (by kernel_rfl) (Rg.Any.runSkip none rfl rfl rfl (Rg.exec_store _ _ _ rfl _ rfl _ rfl (Rg.run_storeSl _ infoPermsV hcx.c hcx.f)) ⟨.inl rfl,.inl rfl⟩ ?_);go_frame;refine Rg.Any.done (by kernel_rfl) ?_ _;have hrm3:=hrm2.set (.slice a9 (T.length+1) c9);have hcx2:=hcx.set (.slice a9 (T.length+1) c9);have hkx:=(Rg.Kp.below hkk hkp (fun k e=>(hrm.lt1 k e).1)).setCell (p:=⟨cb,0,none⟩) HCB.out (.slice a9 (T.length+1) c9);generalize X9.setCell ⟨cb,0,none⟩ (.slice a9 (T.length+1) c9)=W9 at *;have CC9:=ι hcx2;have RM9:=ι hrm3;have K9:=ι hkx;have RG9:=ι (RG.out.next (show Gd D (Ma.mulN xj xk) from Cm.gd_mul GJ.out GK.out));have RE9:=ι (show rn (S.drop (i+1)) (T++[(Ma.mulN xj xk)])=rn S gs by have:=HRO.out HC0.out; rwa [HE0.out] at this)
        clear hrm3 hcx2 hkx hcx hbx1 hbx2 hrm2 hkp r1 hcw hcw2 hb1 hb2 hb12 hb22 hrm hkk hem hS CC RM B1 B2 CJ EJ K CK EK;go_upto_region 18 with (fail);refine Rg.wl ?_;refine Rg.lr 83 (exec_bin (R:=.int .i64 (((i+1):Nat):Int)) .add _ _ _ rfl rfl rfl (b_add _ (by omega) (by omega))) ?_;go_frame;refine Rg.lm 25 (.int .i64 (((i+1):Nat):Int)) ?_;go_frame;go_wp2
        go_roundw
        case rel=>exact ⟨i+1,_,_,by go_num,HIL.out,CC9,RM9,RE9,RG9,K9⟩
        case measure=>simp [intOf]; have:=HIL.out; omega
     case neg =>
     by_cases hx2:x=2
     case neg =>
      skip
      go_upto_region 12 with (fail);refine Rg.wl ?_;refine Rg.lr 39 (exec_field _ rfl rfl (stG0 _ _)) ?_;go_frame;refine Rg.lr 40 (Rg.exec_load (v:=.int .i64 x) _ _ rfl ⟨xb,0,none⟩ rfl (run_loadInt B0.out.cell)) ?_;go_frame;refine Rg.lr 41 (exec_bin (R:=.bool true) .neq _ _ _ rfl rfl rfl (b_neqB _ (decide_eq_true hx1))) ?_;go_frame;refine Rg.lm 42 (.bool true) ?_;go_frame;refine Rg.lW 43 (exec_field _ rfl rfl (stG0 _ _)) ?_;go_frame;refine Rg.lW 44 (Rg.exec_load (v:=.int .i64 x) _ _ rfl ⟨xb,0,none⟩ rfl (run_loadInt B0.out.cell)) ?_;go_frame;refine Rg.lW 45 (exec_bin (R:=.bool true) .neq _ _ _ rfl rfl rfl (b_neqB _ (decide_eq_true hx2))) ?_;go_frame;refine Rg.lr 46 (exec_pickT (v:=.bool true) _ _ _ rfl rfl rfl) ?_;go_frame;refine Rg.la 38 (.bool true) ?_;go_frame;go_upto_region 13 with (fail);refine Rg.wl ?_;refine Rg.la 4 (.slice none 0 0) ?_;go_frame;refine Rg.la 5 (.int .i64 ((3:Nat):Int)) ?_;go_frame
      go_wp2
      go_ret2
      exact ⟨_,[],3,rfl,.inr (.inr ⟨HZ.out,hul,D,gs,rfl,rfl,by rw [HRC.out (by rw [rnC_3 (s:=(x,y,z)) hx1 hx2]; decide),rnC_3 (s:=(x,y,z)) hx1 hx2],.inl ⟨by decide,rfl⟩⟩),ints_nil _,Rg.acc K0.out K.out⟩
     case pos =>
      by_cases hy:0≤y∧y<(T.length:Int)
      case neg =>
       skip
       go_upto_region 12 with (fail);refine Rg.wl ?_;refine Rg.lr 39 (exec_field _ rfl rfl (stG0 _ _)) ?_;go_frame;refine Rg.lr 40 (Rg.exec_load (v:=.int .i64 x) _ _ rfl ⟨xb,0,none⟩ rfl (run_loadInt B0.out.cell)) ?_;go_frame;refine Rg.lr 41 (exec_bin (R:=.bool true) .neq _ _ _ rfl rfl rfl (b_neqB _ (decide_eq_true hx1))) ?_;go_frame;refine Rg.lm 42 (.bool true) ?_;go_frame;refine Rg.lW 43 (exec_field _ rfl rfl (stG0 _ _)) ?_;go_frame;refine Rg.lW 44 (Rg.exec_load (v:=.int .i64 x) _ _ rfl ⟨xb,0,none⟩ rfl (run_loadInt B0.out.cell)) ?_;go_frame;refine Rg.lW 45 (exec_bin (R:=.bool false) .neq _ _ _ rfl rfl rfl (b_neqB _ (decide_eq_false (fun e=>e hx2)))) ?_;go_frame;refine Rg.lr 46 (exec_pickT (v:=.bool false) _ _ _ rfl rfl rfl) ?_;go_frame;refine Rg.la 38 (.bool false) ?_;go_frame;go_upto_region 14 with (fail);refine Rg.wl ?_;refine Rg.lm 48 ((.func (.func 49) #[] #[.pointer (some ⟨cb,0,none⟩)])) ?_;go_frame
       refine Rg.lr 49 (exec_field _ rfl rfl (stG1 _ _)) ?_;go_frame;refine Rg.lr 50 (Rg.exec_load (v:=.int .i64 y) _ _ rfl ⟨xb,1,none⟩ rfl (run_loadInt B1.out.cell)) ?_;go_frame;refine Rg.lk 51 (exec_fnc1 49 _ _ _ rfl rfl rfl (clRun1 _ _)) ?_;refine (run1_any (i:=y) (CL.mk CC.out.c CC.out.lt)).mono ?_;rintro e1 w221 ⟨rfl,hb⟩;rw [show decide (0≤y∧y<(T.length:Int))=false from decide_eq_false hy];refine ⟨_,rfl,?_⟩;go_frame;replace CC:=ι (CC.out.below hb);replace RM:=ι (RM.out.below hb);replace B0:=ι (B0.out.below hb);replace B1:=ι (B1.out.below hb);replace B2:=ι (B2.out.below hb);replace K:=ι (Rg.acc K.out hb);clear hb;refine Rg.lr 52 (exec_not _ _ false rfl rfl) ?_;go_frame;refine Rg.lm 53 (.bool true) ?_;go_frame;refine listW_pass (some 54) (by kernel_rfl) rfl ?_;go_frame;refine listW_pass (some 55) (by kernel_rfl) rfl ?_;go_frame;refine listW_pass (some 56) (by kernel_rfl) rfl ?_;go_frame
       refine listW_pass (some 57) (by kernel_rfl) rfl ?_;go_frame;refine listW_pass (some 58) (by kernel_rfl) rfl ?_;go_frame;refine listW_pass (some 59) (by kernel_rfl) rfl ?_;go_frame;refine listW_pass (some 60) (by kernel_rfl) rfl ?_;go_frame;refine listW_pass (some 61) (by kernel_rfl) rfl ?_;go_frame;refine listW_pass (some 62) (by kernel_rfl) rfl ?_;go_frame;refine listW_pass (some 63) (by kernel_rfl) rfl ?_;go_frame;refine Rg.lr 64 (exec_pickT (v:=.bool true) _ _ _ rfl rfl rfl) ?_;go_frame;refine Rg.la 47 (.bool true) ?_;go_frame;go_upto_region 15 with (fail);refine Rg.wl ?_;refine Rg.la 4 (.slice none 0 0) ?_;go_frame;refine Rg.la 5 (.int .i64 ((2:Nat):Int)) ?_;go_frame;go_wp2
       go_ret2
       exact ⟨_,[],2,rfl,.inr (.inr ⟨HZ.out,hul,D,gs,rfl,rfl,by rw [HRC.out (by rw [rnC_a (s:=(x,y,z)) (.inr hx2) hy]; decide),rnC_a (s:=(x,y,z)) (.inr hx2) hy],.inl ⟨by decide,rfl⟩⟩),ints_nil _,Rg.acc K0.out K.out⟩
      case pos =>
       skip
       go_upto_region 12 with (fail);refine Rg.wl ?_;refine Rg.lr 39 (exec_field _ rfl rfl (stG0 _ _)) ?_;go_frame;refine Rg.lr 40 (Rg.exec_load (v:=.int .i64 x) _ _ rfl ⟨xb,0,none⟩ rfl (run_loadInt B0.out.cell)) ?_;go_frame;refine Rg.lr 41 (exec_bin (R:=.bool true) .neq _ _ _ rfl rfl rfl (b_neqB _ (decide_eq_true hx1))) ?_;go_frame;refine Rg.lm 42 (.bool true) ?_;go_frame;refine Rg.lW 43 (exec_field _ rfl rfl (stG0 _ _)) ?_;go_frame;refine Rg.lW 44 (Rg.exec_load (v:=.int .i64 x) _ _ rfl ⟨xb,0,none⟩ rfl (run_loadInt B0.out.cell)) ?_;go_frame;refine Rg.lW 45 (exec_bin (R:=.bool false) .neq _ _ _ rfl rfl rfl (b_neqB _ (decide_eq_false (fun e=>e hx2)))) ?_;go_frame;refine Rg.lr 46 (exec_pickT (v:=.bool false) _ _ _ rfl rfl rfl) ?_;go_frame;refine Rg.la 38 (.bool false) ?_;go_frame;go_upto_region 14 with (fail);refine Rg.wl ?_;refine Rg.lm 48 ((.func (.func 49) #[] #[.pointer (some ⟨cb,0,none⟩)])) ?_;go_frame
       refine Rg.lr 49 (exec_field _ rfl rfl (stG1 _ _)) ?_;go_frame;refine Rg.lr 50 (Rg.exec_load (v:=.int .i64 y) _ _ rfl ⟨xb,1,none⟩ rfl (run_loadInt B1.out.cell)) ?_;go_frame;refine Rg.lk 51 (exec_fnc1 49 _ _ _ rfl rfl rfl (clRun1 _ _)) ?_;refine (run1_any (i:=y) (CL.mk CC.out.c CC.out.lt)).mono ?_;rintro e1 w252 ⟨rfl,hb⟩;rw [show decide (0≤y∧y<(T.length:Int))=true from decide_eq_true hy];refine ⟨_,rfl,?_⟩;go_frame;replace CC:=ι (CC.out.below hb);replace RM:=ι (RM.out.below hb);replace B0:=ι (B0.out.below hb);replace B1:=ι (B1.out.below hb);replace B2:=ι (B2.out.below hb);replace K:=ι (Rg.acc K.out hb);clear hb;refine Rg.lr 52 (exec_not _ _ true rfl rfl) ?_;go_frame;refine Rg.lm 53 (.bool false) ?_;go_frame;refine Rg.lW 54 (exec_field _ rfl rfl (stG0 _ _)) ?_;go_frame;refine Rg.lW 55 (Rg.exec_load (v:=.int .i64 x) _ _ rfl ⟨xb,0,none⟩ rfl (run_loadInt B0.out.cell)) ?_;go_frame
       refine Rg.lW 56 (exec_bin (R:=.bool false) .eql _ _ _ rfl rfl rfl (b_eql _ (decide_eq_false hx1))) ?_;go_frame;refine Rg.lW 57 (Rg.xm (.bool false) _ rfl rfl) ?_;go_frame;refine listW_pass (some 58) (by kernel_rfl) rfl ?_;go_frame;refine listW_pass (some 59) (by kernel_rfl) rfl ?_;go_frame;refine listW_pass (some 60) (by kernel_rfl) rfl ?_;go_frame;refine listW_pass (some 61) (by kernel_rfl) rfl ?_;go_frame;refine listW_pass (some 62) (by kernel_rfl) rfl ?_;go_frame;refine Rg.lW 63 (exec_pickF (v:=.bool false) _ _ _ rfl rfl rfl) ?_;go_frame;refine Rg.lr 64 (exec_pickF (v:=.bool false) _ _ _ rfl rfl rfl) ?_;go_frame;refine Rg.la 47 (.bool false) ?_;go_frame;go_upto_region 16 with (fail);refine Rg.wl ?_;refine Rg.lr 66 (exec_field _ rfl rfl (stG0 _ _)) ?_;go_frame;refine Rg.lr 67 (Rg.exec_load (v:=.int .i64 x) _ _ rfl ⟨xb,0,none⟩ rfl (run_loadInt B0.out.cell)) ?_;go_frame;refine Rg.lr 68 (exec_bin (R:=.bool false) .eql _ _ _ rfl rfl rfl (b_eql _ (decide_eq_false hx1))) ?_;go_frame
       refine Rg.la 65 (.bool false) ?_;go_frame;obtain ⟨j,rfl⟩:∃ j:Nat,y=((j:Nat):Int):=⟨y.toNat,by omega⟩;have HJ:=ι (show j<T.length by omega);obtain ⟨xj,hxj⟩:∃ q,Hid (T[j]?=some q):=⟨_,ι (List.getElem?_eq_getElem HJ.out)⟩;have GJ:=ι (RG.out.gd xj (List.mem_of_getElem? hxj.out));obtain ⟨fbj,foj,fcj,uj,ej,hcu,heu⟩:=RM.out.at (by omega) HJ.out hxj.out;simp only [Value.slice.injEq,true_and] at ej;obtain ⟨rfl,rfl⟩:=ej;have CJ:=ι hcu;have EJ:=ι heu;clear hcu heu;have HC0:=ι (show rnC T (x,((j:Nat):Int),z)=0 from rnC_i hx2 hy);have HE0:=ι (show rnE T (x,((j:Nat):Int),z)=Ma.invN xj from rnE_i hx2 (by show T[(((j:Nat):Int)).toNat]?=_; rw [Int.toNat_natCast]; exact hxj.out));go_upto_region 11 with (fail);have hV1:Below w252.heap.size w252 w252.drew:=(Below.refl _ _).drew;replace CC:=ι (CC.out.below hV1);replace RM:=ι (RM.out.below hV1)
       replace B1:=ι (B1.out.below hV1);replace B2:=ι (B2.out.below hV1);replace CJ:=ι (CJ.out.below hV1);replace EJ:=ι (EJ.out.below hV1);replace K:=ι (Rg.acc K.out hV1);clear hV1;refine Rg.Any.begin (S:=Rg.Tw 9 (fun W:World=>W.cell? ⟨cb,0,none⟩=some (.slice (some ⟨fbj,foj,none⟩) T.length fc)∧W.cell? ⟨xb,1,none⟩=some (.int .i64 ((j:Nat):Int))∧W.cell? ⟨xb,2,none⟩=some (.int .i64 z)) 6 (fun W=>Below w252.drew.heap.size w252.drew W)) mix ?_;generalize w252.drew=w253 at *;have hS:∀ l:Array Bool,Rg.Tw 9 (fun W:World=>W.cell? ⟨cb,0,none⟩=some (.slice (some ⟨fbj,foj,none⟩) T.length fc)∧W.cell? ⟨xb,1,none⟩=some (.int .i64 ((j:Nat):Int))∧W.cell? ⟨xb,2,none⟩=some (.int .i64 z)) 6 (fun W=>Below w253.heap.size w253 W) l w253:=fun l=>⟨.inr ⟨CC.out.c,B1.out.cell,B2.out.cell⟩,.inr (Below.refl _ _)⟩;refine Rg.Any.takeA (i:=0) (t:=9) (u:=6) (v:=.slice (some ⟨fbj,foj,none⟩) T.length fc) (some 29) rfl rfl (by kernel_rfl) (by kernel_rfl) (by kernel_rfl) (fun _ _ _ h=>h) rfl rfl (by kernel_rfl) rfl (Rg.yields_cell _ _ rfl rfl ⟨cb,0,none⟩ rfl (fun W hW=>Rg.run_loadSl _ _ Tryz.underlying22 hW.1)) (hS _) ?_;go_frame
       refine Rg.Any.takeA (i:=1) (t:=9) (u:=6) (v:=.slice (some ⟨fbj,foj,none⟩) T.length fc) (some 30) rfl rfl (by kernel_rfl) (by kernel_rfl) (by kernel_rfl) (fun _ _ _ h=>h) rfl rfl (by kernel_rfl) rfl (Rg.yields_cell _ _ rfl rfl ⟨cb,0,none⟩ rfl (fun W hW=>Rg.run_loadSl _ _ Tryz.underlying22 hW.1)) (hS _) ?_;go_frame;refine Rg.Any.takeP (i:=2) (t:=9) (u:=6) (v:=.pointer (some ⟨xb,1,none⟩)) (some 31) rfl rfl (by kernel_rfl) (by kernel_rfl) (by kernel_rfl) (fun _ _ _ h=>h) rfl rfl (.inl ⟨rfl,fun w _=>exec_field _ rfl rfl (stG1 _ _)⟩) (hS _) ?_;go_frame;refine Rg.Any.takeA (i:=3) (t:=9) (u:=6) (v:=.int .i64 ((j:Nat):Int)) (some 32) rfl rfl (by kernel_rfl) (by kernel_rfl) (by kernel_rfl) (fun _ _ _ h=>h) rfl rfl (by kernel_rfl) rfl (Rg.yields_cell _ _ rfl rfl ⟨xb,1,none⟩ rfl (fun W hW=>run_loadInt hW.2.1)) (hS _) ?_;go_frame;refine Rg.Any.takeP (i:=4) (t:=9) (u:=6) (v:=.pointer (some ⟨fbj,foj+j,none⟩)) (some 33) rfl rfl (by kernel_rfl) (by kernel_rfl) (by kernel_rfl) (fun _ _ _ h=>h) rfl rfl (Rg.yields_index slPerms _ _ rfl rfl fbj (foj) (T.length) fc (j) rfl rfl HJ.out) (hS _) ?_;go_frame
       refine Rg.Any.takeB (i:=5) (t:=9) (u:=6) (v:=uj) (some 34) rfl rfl (by kernel_rfl) (by kernel_rfl) (by kernel_rfl) (fun _ _ _ h=>h) rfl rfl (by kernel_rfl) rfl (Rg.yields_cell _ _ rfl rfl ⟨fbj,foj+j,none⟩ rfl (fun W hW=>Rg.run_loadSl _ _ Tryz.underlying30 ((Below.cell (p:=⟨fbj,foj+j,none⟩) hW CJ.out.lt).trans CJ.out.cell))) (hS _) ?_;go_frame;refine Rg.Any.one (i:=6) (by kernel_rfl) (Rg.Any.ask (some 35) rfl rfl rfl _ _ (exec_fn1 45 _ _ rfl rfl (Bhcl0 _ _)) ?_);refine (fcInv_any _ xj w253 EJ.out.np GJ.out.1 (by rw [GJ.out.2]; omega) (by rw [GJ.out.2]; exact hn1)).mono ?_;rintro e1 w254 ⟨mv,rfl,hmv,hb⟩;have hem:EX w254 cb (.slice (some ⟨fbj,foj,none⟩) T.length fc) mv (Ma.ofN (Ma.invN xj)):=EX.new hmv CC.out.lt (fun q hq=>(RM.out.lt1 q hq).2)
       obtain ⟨ma,mn,mc,hms⟩:∃ a n c,mv=.slice a n c:=by
        obtain ⟨a,c,e,-⟩:=hem.ints.shape;exact ⟨_,_,_,e⟩
       subst hms;have hrm:=RM.out.below hb;have hcw:=CC.out.below hb;have hb1:=B1.out.below hb;have hb2:=B2.out.below hb;have hkk:=Rg.acc K.out hb;clear hb hmv;refine ⟨_,rfl,⟨.inr ⟨hcw.c,hb1.cell,hb2.cell⟩,.inl rfl⟩,?_⟩;go_frame;obtain ⟨a9,c9,X9,r1,hrm2,hkp⟩:=hrm.push hcw.lt hem ⟨_,_,_,rfl⟩ (by omega) 22;have hba:Below w254.heap.size w254 (w254.alloc (.cells #[.slice ma mn mc] 30)):=(Below.refl _ _).alloc (Nat.le_refl _) _;have hcw2:=hcw.below hba;have hb12:=hb1.below hba;have hb22:=hb2.below hba;have hcx:CW X9 cb (.slice (some ⟨fbj,foj,none⟩) T.length fc):=hcw.kp hkp (fun e=>hrm.off e);have hbx1:CL X9 xb 1 (.int .i64 ((j:Nat):Int)):=hb1.kp hkp (fun e=>HXN.out xb e rfl);have hbx2:CL X9 xb 2 (.int .i64 z):=hb2.kp hkp (fun e=>HXN.out xb e rfl);clear hba;refine Rg.Any.one (i:=7) (by kernel_rfl) (Rg.Any.run (some 36) rfl rfl rfl (Rg.exec_buildSlice _ _ _ rfl (.slice ma mn mc) rfl (run_build1P w254 _ ⟨_,_,_,rfl⟩)) ⟨.inr ⟨hcw2.c,hb12.cell,hb22.cell⟩,.inl rfl⟩ ?_)
       go_frame;refine Rg.Any.one (i:=8) (by kernel_rfl) (Rg.Any.run (some 37) rfl rfl rfl (Rg.exec_append _ _ _ rfl rfl rfl r1) ⟨.inr ⟨hcx.c,hbx1.cell,hbx2.cell⟩,.inl rfl⟩ ?_);go_frame;refine Rg.Any.one (i:=9) (by kernel_rfl) (Rg.Any.runSkip none rfl rfl rfl (Rg.exec_store _ _ _ rfl _ rfl _ rfl (Rg.run_storeSl _ infoPermsV hcx.c hcx.f)) ⟨.inl rfl,.inl rfl⟩ ?_);go_frame;refine Rg.Any.done (by kernel_rfl) ?_ _;have hrm3:=hrm2.set (.slice a9 (T.length+1) c9);have hcx2:=hcx.set (.slice a9 (T.length+1) c9);have hkx:=(Rg.Kp.below hkk hkp (fun k e=>(hrm.lt1 k e).1)).setCell (p:=⟨cb,0,none⟩) HCB.out (.slice a9 (T.length+1) c9);generalize X9.setCell ⟨cb,0,none⟩ (.slice a9 (T.length+1) c9)=W9 at *;have CC9:=ι hcx2;have RM9:=ι hrm3;have K9:=ι hkx;have RG9:=ι (RG.out.next (show Gd D (Ma.invN xj) from Cm.gd_inv GJ.out));have RE9:=ι (show rn (S.drop (i+1)) (T++[(Ma.invN xj)])=rn S gs by have:=HRO.out HC0.out; rwa [HE0.out] at this)
       clear hrm3 hcx2 hkx hcx hbx1 hbx2 hrm2 hkp r1 hcw hcw2 hb1 hb2 hb12 hb22 hrm hkk hem hS CC RM B1 B2 CJ EJ K;go_upto_region 18 with (fail);refine Rg.wl ?_;refine Rg.lr 83 (exec_bin (R:=.int .i64 (((i+1):Nat):Int)) .add _ _ _ rfl rfl rfl (b_add _ (by omega) (by omega))) ?_;go_frame;refine Rg.lm 25 (.int .i64 (((i+1):Nat):Int)) ?_;go_frame;go_wp2
       go_roundw
       case rel=>exact ⟨i+1,_,_,by go_num,HIL.out,CC9,RM9,RE9,RG9,K9⟩
       case measure=>simp [intOf]; have:=HIL.out; omega
end Go.Proofs.YtdnmmibchbceeaaGreat

namespace Go.Proofs.YtdnmmibchbceeaaGreat
open Go.RowKit
open Go.Proofs
open Go.Proofs.Ob
open Go.Sort
open Go.Proofs.Cm (Gd Gr IsChain ap)
attribute [local irreducible] Go.Calls Go.wpList
theorem Dmcl1 (args:Array Value) (w:World):(callFunc 22 args).run Tryz.prog w=.ok (.enter 22 args) w:=by kernel_rfl
theorem Dmcl2 (args:Array Value) (w:World):(callFunc 20 args).run Tryz.prog w=.ok (.enter 20 args) w:=by kernel_rfl
theorem Dmcl3 (args:Array Value) (w:World):(callFunc 26 args).run Tryz.prog w=.ok (.enter 26 args) w:=by kernel_rfl
theorem Dmcl6 (args:Array Value) (w:World):(callFunc 16 args).run Tryz.prog w=.ok (.enter 16 args) w:=by kernel_rfl
theorem Dmcl8 (args:Array Value) (w:World):(callFunc 28 args).run Tryz.prog w=.ok (.enter 28 args) w:=by kernel_rfl
theorem Dmcl9 (args:Array Value) (w:World):(callFunc 11 args).run Tryz.prog w=.ok (.enter 11 args) w:=by kernel_rfl
theorem five10_any (w:World):Calls Tryz.prog 26 #[] w (GPost 5 [[1,2,3,4,0]] w):=by
 go_enter Tryz.func26,Tryz.ntmps26
 go_upto_region 1 with (fail);generalize hW:w.alloc (.cells #[.int .i64 0,.slice none 0 0] 24)=W0
 have hsz:W0.heap.size=w.heap.size+1:=by rw [← hW]; simp
 have hbW:Below w.heap.size w W0:=by rw [← hW]; exact (Below.refl _ _).alloc (Nat.le_refl _) _
 have hc1:W0.cell? ⟨w.heap.size,0,none⟩=some (.int .i64 0):=by rw [← hW,Rg.cellNew]; rfl
 have hc2:W0.cell? ⟨w.heap.size,1,none⟩=some (.slice none 0 0):=by rw [← hW,Rg.cellNew]; rfl
 have hf1:∀ o,W0.frozen? ⟨w.heap.size,o,none⟩=false:=fun o=>by rw [← hW]; exact frozenNewN _ _ _ 0 _
 clear hW;refine Rg.wl ?_;have i1:=ints_new W0 3 [1,2,3,4,0] (by decide);have b1:Below W0.heap.size W0 _:=(Below.refl W0.heap.size W0).alloc (Nat.le_refl _) (.cells (([1,2,3,4,0]:List Int).map (Value.int .i64)).toArray 3);refine Rg.lr 1 (exec_flat _ _ 5 _ rfl [1,2,3,4,0] Tryz.underlying30 szInt zInt rfl (by decide) (by decide) rfl) ?_;go_frame;generalize W0.alloc (.cells (([1,2,3,4,0]:List Int).map (Value.int .i64)).toArray 3)=W1 at *
 have g3:=rowsF_new (B:=w.heap.size+1) (w:=W1) 30 [.slice (some ⟨W0.heap.size,0,none⟩) 5 5] [[1,2,3,4,0]] rfl (by simp) (by
  have s1:=b1.size;intro i h h2
  match i,h,h2 with
  | 0,_,_=>exact ⟨i1,(Rg.Fresh.mk _ _ _ _).mono (by omega)⟩) (by have s1:=b1.size; omega)
 have bz:Below W1.heap.size W1 _:=(Below.refl W1.heap.size W1).alloc (Nat.le_refl _) (.cells #[.slice (some ⟨W0.heap.size,0,none⟩) 5 5] 30);refine Rg.lr 2 (Rg.exec_buildSlice _ _ _ rfl (.slice (some ⟨W0.heap.size,0,none⟩) 5 5) rfl (run_build1P W1 _ ⟨_,_,_,rfl⟩)) ?_;go_frame;have hb3:=(Rg.acc b1 bz);clear bz b1 i1;have g4:RowsF (w.heap.size+1) (W1.alloc (.cells #[.slice (some ⟨W0.heap.size,0,none⟩) 5 5] 30)) (.slice (some ⟨W1.heap.size,0,none⟩) 1 1) [[1,2,3,4,0]]:=g3;clear g3;generalize W1.alloc (.cells #[.slice (some ⟨W0.heap.size,0,none⟩) 5 5] 30)=Z at *;refine Rg.lr 3 (exec_buildG (d:=5) _ _ rfl rfl rfl) ?_;go_frame;obtain ⟨kc,kf⟩:=Rg.bcell hb3
 have lt1:w.heap.size<W0.heap.size:=by omega
 have r0:=(kc _ 0 lt1).trans hc1;have r1:=(kc _ 1 lt1).trans hc2;have rf:=fun o=>(kf _ o lt1).trans (hf1 o);obtain ⟨p0,p1,p2⟩:=group_set (.int .i64 5) (.slice (some ⟨W1.heap.size,0,none⟩) 1 1) r0 r1 (Rg.acc hbW hb3) (by omega);have hR:=((g4.set w.heap.size 0 (.int .i64 5) (by omega)).set w.heap.size 1 (.slice (some ⟨W1.heap.size,0,none⟩) 1 1) (by omega)).mono (B':=w.heap.size) (by omega);refine Rg.list_skip none rfl rfl (Rg.exec_store _ _ _ rfl _ rfl _ rfl (run_storeG 5 _ 1 1 r0 r1 (rf 0) (rf 1))) ?_;go_frame;generalize (Z.setCell ⟨w.heap.size,0,none⟩ (.int .i64 5)).setCell ⟨w.heap.size,1,none⟩ (.slice (some ⟨W1.heap.size,0,none⟩) 1 1)=W6 at *;have H:=ι (And.intro p0 (And.intro p1 (And.intro p2 hR)));clear hc1 hc2 hf1 kc kf r0 r1 rf p0 p1 p2 hR g4;go_wp2;exact bodyPost_ret (results_cellG rfl _ rfl H.out.1 H.out.2.1) rfl ⟨_,_,_,rfl,H.out.2.2.2,H.out.2.2.1⟩
def G5:List (List Nat):=[[1,2,3,4,0]]
theorem bf5:BfE (mlets G5) 5 (bfs (mlets G5) 5 5):=⟨5,rfl,by decide +kernel⟩
theorem ltV_known {N:Nat} {gs:List (List Nat)} {x:List Nat} (hN:N≤6) {st:BSt} (hb:BfE (mlets gs) N st) (hr:rgC ((N:Nat):Int) (gs.map Ma.ofN) (Ma.ofN x)=0) {l:List Int} {c:Int} (h:LtV ((N:Nat):Int) (gs.map Ma.ofN) (Ma.ofN x) l c) :
  (x∉st.1∧c=18∧l=[])∨(x∈st.1∧c=0∧l=wdOf st x):=by
 rcases h with ⟨h,_⟩ | ⟨_,N',gs',O,R,x',e1,e2,e3,gx,hgd,hch,⟨h2,_⟩ | ⟨h2,st',hbe,h3⟩⟩
 ·exact absurd hr h
 ·exfalso
  have h7:=prodK_720 (Cm.Gr.isG hgd) hch (by omega) (Nat.le_refl N');rw [szD_len hch] at h7;omega
 ·obtain rfl:N=N':=by omega
  have e4:=map_ofN_inj e2;subst e4;have e5:x=x':=Ma.ofN_inj e3;subst e5;have:=hbe.uniq hb;subst this;exact h3
theorem grV_known {N:Nat} {gs:List (List Nat)} (hN:N≤6) {st:BSt} (hb:BfE (mlets gs) N st) (hr:Ma.gchk ((N:Nat):Int) (gs.map Ma.ofN)=0) {l:List Int} {c:Int} (h:GrV ((N:Nat):Int) (gs.map Ma.ofN) l c) :
  c=0∧∃ wl,st.2[st.2.length - 1]?=some wl∧l=(List.range (wl.length+1)).map (cnL st st.1):=by
 rcases h with ⟨h,_⟩ | ⟨_,N',gs',O,R,e1,e2,hN1,hgd,hch,⟨h2,_⟩ | ⟨h2,hc,st',wl,hbe,h3,h4⟩⟩
 ·exact absurd hr h
 ·exfalso
  have h7:=prodK_720 (Cm.Gr.isG hgd) hch (by omega) (Nat.le_refl N');rw [szD_len hch] at h7;omega
 ·obtain rfl:N=N':=by omega
  have e4:=map_ofN_inj e2;subst e4;have:=hbe.uniq hb;subst this;exact ⟨hc,wl,h3,h4⟩
theorem lt_a {l:List Int} {c:Int} (h:LtV 3 [[1,0,2],[0,2,1]] [2,1,0] l c):l=[1,2,1]∧c=0:=by
 rcases ltV_known (N:=3) (gs:=G3) (x:=[2,1,0]) (by decide) bf3 (by decide +kernel) h with ⟨h1,_⟩ | ⟨_,h2,h3⟩
 ·exact absurd h1 (by decide +kernel)
 ·exact ⟨h3.trans (by decide +kernel),h2⟩
theorem lt_b {l:List Int} {c:Int} (h:LtV 5 [[1,2,3,4,0]] [3,4,0,1,2] l c):l=[-1,-1]∧c=0:=by
 rcases ltV_known (N:=5) (gs:=G5) (x:=[3,4,0,1,2]) (by decide) bf5 (by decide +kernel) h with ⟨h1,_⟩ | ⟨_,h2,h3⟩
 ·exact absurd h1 (by decide +kernel)
 ·exact ⟨h3.trans (by decide +kernel),h2⟩
theorem lt_c {l:List Int} {c:Int} (h:LtV 5 [[1,2,3,4,0]] [1,0,2,3,4] l c):l=[]∧c=18:=by
 rcases ltV_known (N:=5) (gs:=G5) (x:=[1,0,2,3,4]) (by decide) bf5 (by decide +kernel) h with ⟨_,h2,h3⟩ | ⟨h1,_⟩
 ·exact ⟨h3,h2⟩
 ·exact absurd h1 (by decide +kernel)
theorem gr_a {l:List Int} {c:Int} (h:GrV 3 [[1,0,2],[0,2,1]] l c):l=[1,2,2,1]∧c=0:=by
 obtain ⟨h1,wl,h2,h3⟩:=grV_known (N:=3) (gs:=G3) (by decide) bf3 (by decide) h
 have e:wl=[1,2,1]:=by
  have:(bfs (mlets G3) 3 6).2[(bfs (mlets G3) 3 6).2.length - 1]?=some [1,2,1]:=by decide +kernel
  rw [this] at h2; exact (Option.some.inj h2).symm
 subst e;exact ⟨h3.trans (by decide +kernel),h1⟩
theorem gr_b {l:List Int} {c:Int} (h:GrV 5 [[1,2,3,4,0]] l c):l=[1,2,2]∧c=0:=by
 obtain ⟨h1,wl,h2,h3⟩:=grV_known (N:=5) (gs:=G5) (by decide) bf5 (by decide) h
 have e:wl=[-1,-1]:=by
  have:(bfs (mlets G5) 5 5).2[(bfs (mlets G5) 5 5).2.length - 1]?=some [-1,-1]:=by decide +kernel
  rw [this] at h2; exact (Option.some.inj h2).symm
 subst e;exact ⟨h3.trans (by decide +kernel),h1⟩
theorem pg_c {S:List Stp} {c:Int} (h:PgV 5 [[1,2,3,4,0]] [1,0,2,3,4] S c):S=[]∧c=18:=by
 rcases h with ⟨h,_⟩ | ⟨_,h,_⟩ | ⟨_,_,N,gs,x,e1,e2,e3,gx,hgd,⟨_,h1,h2⟩ | ⟨h1,_⟩⟩
 ·exact absurd (by decide +kernel) h
 ·exact absurd h (by decide)
 ·exact ⟨h2,h1⟩
 ·exfalso
  obtain rfl:N=5:=by omega
  have e4:G5=gs:=map_ofN_inj (show G5.map Ma.ofN=gs.map Ma.ofN from e2);subst e4;have e5:([1,0,2,3,4]:List Nat)=x:=Ma.ofN_inj (show Ma.ofN [1,0,2,3,4]=Ma.ofN x from e3);subst e5;exact absurd (bf5.all hgd h1) (by decide +kernel)
theorem rn_x {l:List Int} {c:Int} (h:RnV 3 [[1,0,2],[0,2,1]] [(1,0,1),(1,2,0)] l c):l=[2,1,0]∧c=0 :=
 h.uniq (.inr (.inr ⟨gchk3,by decide,3,G3,rfl,rfl,by decide,.inr ⟨rfl,by decide⟩⟩))
theorem rn_y {l:List Int} {c:Int} (h:RnV 3 [[1,0,2],[0,2,1]] [] l c):l=[0,1,2]∧c=0 :=
 h.uniq (.inr (.inr ⟨gchk3,by decide,3,G3,rfl,rfl,by decide,.inr ⟨rfl,by decide⟩⟩))
theorem rn_z {l:List Int} {c:Int} (h:RnV 3 [[1,0,2],[0,2,1]] [(1,0,2)] l c):l=[]∧c=2 :=
 h.uniq (.inr (.inr ⟨gchk3,by decide,3,G3,rfl,rfl,by decide,.inl ⟨by decide,rfl⟩⟩))
theorem rn_u {l:List Int} {c:Int} (h:RnV 3 [[1,0,2],[0,2,1]] [(3,0,0)] l c):l=[]∧c=3 :=
 h.uniq (.inr (.inr ⟨gchk3,by decide,3,G3,rfl,rfl,by decide,.inl ⟨by decide,rfl⟩⟩))
theorem ev_n {l:List Int} {c:Int} (h:EvV 3 [[1,0,2],[0,2,1]] [3] l c):l=[]∧c=2 :=
 h.uniq (.inr (.inr (.inl ⟨gchk3,by decide,by unfold okW; decide,rfl,rfl⟩)))
theorem exec_buildS0 {o:Oper} {a:Act} {w:World} {i:Int} (x:Operand) (ho:o.op=.build 51 #[(0,x)]) (hx:a.eval x=.int .i64 i) :
  (execOp a.eval o).run Tryz.prog w=.ok (.value (.agg #[.int .i64 i,.int .i64 0,.int .i64 0])) w:=by
 unfold execOp;simp only [ho,Sem.run_bind,Sem.run_pure];simp only [List.map_toArray,List.map_cons,List.map_nil,hx]
 have h:(Instr.build 51 #[(0,.int .i64 i)]).run Tryz.prog w=.ok (.agg #[.int .i64 i,.int .i64 0,.int .i64 0]) w:=by kernel_rfl
 first | (rw [h]; rfl) | (erw [h]; rfl)
theorem run_build2St (X:World) (a b c d e f:Int):(Instr.buildSlice 36 2 #[(0,.agg #[.int .i64 a,.int .i64 b,.int .i64 c]),(1,.agg #[.int .i64 d,.int .i64 e,.int .i64 f])]).run Tryz.prog X=.ok (.slice (some ⟨X.heap.size,0,none⟩) 2 2) (X.alloc (.cells #[.int .i64 a,.int .i64 b,.int .i64 c,.int .i64 d,.int .i64 e,.int .i64 f] 51)):=by
 obtain ⟨i0,hi,hz0,hz1,hz2⟩:=info_parts infoSt;refine run_buildSlice X 36 51 2 _ _ i0 _ Tryz.underlying36 hi hz0 (by rw [hz1]; decide) (by rw [hz1]; decide) ?_;generalize (fun x=>((Value.agg #[.int .i64 0,.int .i64 0,.int .i64 0]).cells)[x % (Value.agg #[.int .i64 0,.int .i64 0,.int .i64 0]).cells.size]!)=f;rw [hz1];have h1:Array.range (2*3)=#[0,1,2,3,4,5]:=rfl;simp [Instr.fill,Value.cells,h1]
theorem sta_one (X:World) (a b c:Int) (t:TypeId):StA (X.alloc (.cells #[.int .i64 a,.int .i64 b,.int .i64 c] t)) (.slice (some ⟨X.heap.size,0,none⟩) 1 1) [(a,b,c)]:=by
 refine ⟨_,_,rfl,fun _=>⟨X.heap.size,0,rfl,by simp,fun i hi=>?_⟩⟩
 obtain rfl:i=0:=by simpa using hi
 refine ⟨?_,?_,?_⟩ <;> (rw [Rg.cellNew]; rfl)
theorem sta_two (X:World) (a b c d e f:Int) (t:TypeId):StA (X.alloc (.cells #[.int .i64 a,.int .i64 b,.int .i64 c,.int .i64 d,.int .i64 e,.int .i64 f] t)) (.slice (some ⟨X.heap.size,0,none⟩) 2 2) [(a,b,c),(d,e,f)]:=by
 refine ⟨_,_,rfl,fun _=>⟨X.heap.size,0,rfl,by simp,fun i hi=>?_⟩⟩
 match i,hi with
 | 0,_=>refine ⟨?_,?_,?_⟩ <;> (rw [Rg.cellNew]; rfl)
 | 1,_=>refine ⟨?_,?_,?_⟩ <;> (rw [Rg.cellNew]; rfl)
theorem FactorKnown_any (w:World):Calls Tryz.prog 6 #[] w fun e w'=>e=.returned (.bool true)∧Below w.heap.size w w':=by
 have K:=ι (Below.refl w.heap.size w)
 go_enter Tryz.func6,Tryz.ntmps6
 go_upto_region 0 with (fail);refine Rg.wl ?_;refine Rg.la 0 (.bool false) ?_;go_frame;go_upto_region 1 with (fail);refine Rg.wl ?_;refine Rg.lk 26 (exec_fn0 25 _ rfl (Bncl0 _ _)) ?_;refine (three10_any w).mono ?_;rintro e1 w1 ⟨ga,gn,gc,rfl,hgr,hb⟩;have hgr2:=hgr.rows;refine ⟨_,rfl,?_⟩;go_frame;replace K:=ι (Rg.acc K.out hb);clear hb;have GR:=ι (RsO.mk hgr2);have hnew:=ints_new w1 3 [2,1,0] (by decide);refine Rg.lr 27 (exec_flat _ _ 3 _ rfl [2,1,0] Tryz.underlying30 szInt zInt rfl (by decide) (by decide) rfl) ?_;go_frame;have hb:=(Below.refl w1.heap.size w1).alloc (Nat.le_refl _) (.cells (([2,1,0]:List Int).map (Value.int .i64)).toArray 3);generalize w1.alloc (.cells (([2,1,0]:List Int).map (Value.int .i64)).toArray 3)=w2 at *;replace GR:=ι (GR.out.below hb);replace K:=ι (Rg.acc K.out hb);clear hb;have P1:=ι hnew;clear hnew;clear hgr hgr2;refine Rg.lk 28 (exec_fn 22 _ _ _ rfl rfl rfl (Dmcl1 _ _)) ?_
 refine (fcLeast_any _ _ 3 [[1,0,2],[0,2,1]] [2,1,0] w2 GR.out.r P1.out (by decide)).mono ?_;rintro e1 w3 ⟨rv,rl,rc,rfl,hev,hri,hb⟩;obtain ⟨rfl,rfl⟩:=lt_a hev;obtain ⟨ra1,rc1,hsh,-⟩:=hri.shape;subst hsh;clear hev;refine ⟨_,rfl,?_⟩;go_frame;replace GR:=ι (GR.out.below hb);replace P1:=ι (P1.out.below hb);replace K:=ι (Rg.acc K.out hb);clear hb;have H1:=ι (NpI.mk hri);refine Rg.lm 25 (.tuple #[.slice ra1 3 rc1,.int .i64 0]) ?_;go_frame;refine Rg.lr 29 (exec_extract (v:=.slice ra1 3 rc1) _ _ rfl rfl rfl) ?_;go_frame;refine Rg.lr 30 (exec_extract (v:=.int .i64 0) _ _ rfl rfl rfl) ?_;go_frame;refine Rg.la 1 (.slice ra1 3 rc1) ?_;go_frame;refine Rg.la 2 (.int .i64 0) ?_;go_frame;clear hri;clear GR P1;go_upto_region 2 with (fail);refine Rg.wl ?_;refine Rg.lk 32 (exec_fn0 25 _ rfl (Bncl0 _ _)) ?_;refine (three10_any w3).mono ?_;rintro e1 w4 ⟨ga,gn,gc,rfl,hgr,hb⟩
 have hgr2:=hgr.rows;refine ⟨_,rfl,?_⟩;go_frame;replace H1:=ι (H1.out.below hb);replace K:=ι (Rg.acc K.out hb);clear hb;have GR:=ι (RsO.mk hgr2);clear hgr hgr2;refine Rg.lk 33 (exec_fn1 20 _ _ rfl rfl (Dmcl2 _ _)) ?_;refine (fcGrowth_any _ 3 [[1,0,2],[0,2,1]] w4 GR.out.r (by decide)).mono ?_;rintro e1 w5 ⟨rv,rl,rc,rfl,hev,hri,hb⟩;obtain ⟨rfl,rfl⟩:=gr_a hev;obtain ⟨ra2,rc2,hsh,-⟩:=hri.shape;subst hsh;clear hev;refine ⟨_,rfl,?_⟩;go_frame;replace H1:=ι (H1.out.below hb);replace GR:=ι (GR.out.below hb);replace K:=ι (Rg.acc K.out hb);clear hb;have H2:=ι (NpI.mk hri);refine Rg.lm 31 (.tuple #[.slice ra2 4 rc2,.int .i64 0]) ?_;go_frame;refine Rg.lr 34 (exec_extract (v:=.slice ra2 4 rc2) _ _ rfl rfl rfl) ?_;go_frame;refine Rg.lr 35 (exec_extract (v:=.int .i64 0) _ _ rfl rfl rfl) ?_;go_frame;refine Rg.la 3 (.slice ra2 4 rc2) ?_;go_frame;refine Rg.la 4 (.int .i64 0) ?_;go_frame
 clear hri;clear GR;go_upto_region 3 with (fail);refine Rg.wl ?_;refine Rg.lk 37 (exec_fn0 26 _ rfl (Dmcl3 _ _)) ?_;refine (five10_any w5).mono ?_;rintro e1 w6 ⟨ga,gn,gc,rfl,hgr,hb⟩;have hgr2:=hgr.rows;refine ⟨_,rfl,?_⟩;go_frame;replace H1:=ι (H1.out.below hb);replace H2:=ι (H2.out.below hb);replace K:=ι (Rg.acc K.out hb);clear hb;have GR:=ι (RsO.mk hgr2);clear hgr hgr2;refine Rg.lk 38 (exec_fn1 20 _ _ rfl rfl (Dmcl2 _ _)) ?_;refine (fcGrowth_any _ 5 [[1,2,3,4,0]] w6 GR.out.r (by decide)).mono ?_;rintro e1 w7 ⟨rv,rl,rc,rfl,hev,hri,hb⟩;obtain ⟨rfl,rfl⟩:=gr_b hev;obtain ⟨ra3,rc3,hsh,-⟩:=hri.shape;subst hsh;clear hev;refine ⟨_,rfl,?_⟩;go_frame;replace H1:=ι (H1.out.below hb);replace H2:=ι (H2.out.below hb);replace GR:=ι (GR.out.below hb);replace K:=ι (Rg.acc K.out hb);clear hb;have H3:=ι (NpI.mk hri);refine Rg.lm 36 (.tuple #[.slice ra3 3 rc3,.int .i64 0]) ?_;go_frame
 refine Rg.lr 39 (exec_extract (v:=.slice ra3 3 rc3) _ _ rfl rfl rfl) ?_;go_frame;refine Rg.lr 40 (exec_extract (v:=.int .i64 0) _ _ rfl rfl rfl) ?_;go_frame;refine Rg.la 5 (.slice ra3 3 rc3) ?_;go_frame;refine Rg.la 6 (.int .i64 0) ?_;go_frame;clear hri;clear GR;go_upto_region 4 with (fail);refine Rg.wl ?_;refine Rg.lk 42 (exec_fn0 26 _ rfl (Dmcl3 _ _)) ?_;refine (five10_any w7).mono ?_;rintro e1 w8 ⟨ga,gn,gc,rfl,hgr,hb⟩;have hgr2:=hgr.rows;refine ⟨_,rfl,?_⟩;go_frame;replace H1:=ι (H1.out.below hb);replace H2:=ι (H2.out.below hb);replace H3:=ι (H3.out.below hb);replace K:=ι (Rg.acc K.out hb);clear hb;have GR:=ι (RsO.mk hgr2);have hnew:=ints_new w8 3 [3,4,0,1,2] (by decide);refine Rg.lr 43 (exec_flat _ _ 5 _ rfl [3,4,0,1,2] Tryz.underlying30 szInt zInt rfl (by decide) (by decide) rfl) ?_;go_frame;have hb:=(Below.refl w8.heap.size w8).alloc (Nat.le_refl _) (.cells (([3,4,0,1,2]:List Int).map (Value.int .i64)).toArray 3)
 generalize w8.alloc (.cells (([3,4,0,1,2]:List Int).map (Value.int .i64)).toArray 3)=w9 at *;replace H1:=ι (H1.out.below hb);replace H2:=ι (H2.out.below hb);replace H3:=ι (H3.out.below hb);replace GR:=ι (GR.out.below hb);replace K:=ι (Rg.acc K.out hb);clear hb;have P1:=ι hnew;clear hnew;clear hgr hgr2;refine Rg.lk 44 (exec_fn 22 _ _ _ rfl rfl rfl (Dmcl1 _ _)) ?_;refine (fcLeast_any _ _ 5 [[1,2,3,4,0]] [3,4,0,1,2] w9 GR.out.r P1.out (by decide)).mono ?_;rintro e1 w10 ⟨rv,rl,rc,rfl,hev,hri,hb⟩;obtain ⟨rfl,rfl⟩:=lt_b hev;obtain ⟨ra4,rc4,hsh,-⟩:=hri.shape;subst hsh;clear hev;refine ⟨_,rfl,?_⟩;go_frame;replace H1:=ι (H1.out.below hb);replace H2:=ι (H2.out.below hb);replace H3:=ι (H3.out.below hb);replace GR:=ι (GR.out.below hb);replace P1:=ι (P1.out.below hb);replace K:=ι (Rg.acc K.out hb);clear hb;have H4:=ι (NpI.mk hri);refine Rg.lm 41 (.tuple #[.slice ra4 2 rc4,.int .i64 0]) ?_;go_frame
 refine Rg.lr 45 (exec_extract (v:=.slice ra4 2 rc4) _ _ rfl rfl rfl) ?_;go_frame;refine Rg.lr 46 (exec_extract (v:=.int .i64 0) _ _ rfl rfl rfl) ?_;go_frame;refine Rg.la 7 (.slice ra4 2 rc4) ?_;go_frame;refine Rg.la 8 (.int .i64 0) ?_;go_frame;clear hri;clear GR P1;go_upto_region 5 with (fail);refine Rg.wl ?_;have hnew:=ints_new w10 3 [1,(-2),1] (by decide);refine Rg.lr 47 (exec_flat _ _ 3 _ rfl [1,(-2),1] Tryz.underlying26 szInt zInt rfl (by decide) (by decide) rfl) ?_;go_frame;have hb:=(Below.refl w10.heap.size w10).alloc (Nat.le_refl _) (.cells (([1,(-2),1]:List Int).map (Value.int .i64)).toArray 3);generalize w10.alloc (.cells (([1,(-2),1]:List Int).map (Value.int .i64)).toArray 3)=w11 at *;replace H1:=ι (H1.out.below hb);replace H2:=ι (H2.out.below hb);replace H3:=ι (H3.out.below hb);replace H4:=ι (H4.out.below hb);replace K:=ι (Rg.acc K.out hb);clear hb
 have A1:=ι hnew;clear hnew;have hnew:=ints_new w11 3 [2,1,0] (by decide);refine Rg.lr 48 (exec_flat _ _ 3 _ rfl [2,1,0] Tryz.underlying30 szInt zInt rfl (by decide) (by decide) rfl) ?_;go_frame;have hb:=(Below.refl w11.heap.size w11).alloc (Nat.le_refl _) (.cells (([2,1,0]:List Int).map (Value.int .i64)).toArray 3);generalize w11.alloc (.cells (([2,1,0]:List Int).map (Value.int .i64)).toArray 3)=w12 at *;replace H1:=ι (H1.out.below hb);replace H2:=ι (H2.out.below hb);replace H3:=ι (H3.out.below hb);replace H4:=ι (H4.out.below hb);replace A1:=ι (A1.out.below hb);replace K:=ι (Rg.acc K.out hb);clear hb;have A2:=ι hnew;clear hnew;refine Rg.lk 49 (exec_fn 27 _ _ _ rfl rfl rfl (Bncl4 _ _)) ?_;refine (evals_yes A1.out A2.out (by decide) (by unfold okW; decide) (by decide +kernel)).mono ?_;rintro e1 w13 ⟨rfl,hb⟩;refine ⟨_,rfl,?_⟩;go_frame;replace H1:=ι (H1.out.below hb)
 replace H2:=ι (H2.out.below hb);replace H3:=ι (H3.out.below hb);replace H4:=ι (H4.out.below hb);replace A1:=ι (A1.out.below hb);replace A2:=ι (A2.out.below hb);replace K:=ι (Rg.acc K.out hb);clear hb;refine Rg.lm 50 (.bool true) ?_;go_frame;refine Rg.lW 51 (Rg.xm (.int .i64 0) _ rfl rfl) ?_;go_frame;refine Rg.lW 52 (exec_eqI _ _ rfl rfl rfl rfl) ?_;go_frame;refine Rg.lr 53 (exec_pickT (v:=.bool true) _ _ _ rfl rfl rfl) ?_;go_frame;refine Rg.lm 54 (.bool true) ?_;go_frame;refine Rg.lW 55 (Rg.xm (.slice ra1 3 rc1) _ rfl rfl) ?_;go_frame;have hnew:=ints_new w13 3 [1,2,1] (by decide);refine Rg.lW 56 (exec_flat _ _ 3 _ rfl [1,2,1] Tryz.underlying26 szInt zInt rfl (by decide) (by decide) rfl) ?_;go_frame;have hb:=(Below.refl w13.heap.size w13).alloc (Nat.le_refl _) (.cells (([1,2,1]:List Int).map (Value.int .i64)).toArray 3);generalize w13.alloc (.cells (([1,2,1]:List Int).map (Value.int .i64)).toArray 3)=w14 at *
 replace H1:=ι (H1.out.below hb);replace H2:=ι (H2.out.below hb);replace H3:=ι (H3.out.below hb);replace H4:=ι (H4.out.below hb);replace A1:=ι (A1.out.below hb);replace A2:=ι (A2.out.below hb);replace K:=ι (Rg.acc K.out hb);clear hb;have A3:=ι hnew;clear hnew;refine listW_ask (some 57) rfl rfl _ _ (exec_fn 15 _ _ _ rfl rfl rfl (Bncl2 _ _)) ?_;refine (Same_any (w0:=w14) (b:=true) H1.out.i A3.out (ι (decide_eq_true rfl)) (Below.refl _ _)).mono ?_;rintro e1 w15 ⟨rfl,hb⟩;refine ⟨_,rfl,?_⟩;go_frame;replace H1:=ι (H1.out.below hb);replace H2:=ι (H2.out.below hb);replace H3:=ι (H3.out.below hb);replace H4:=ι (H4.out.below hb);replace A1:=ι (A1.out.below hb);replace A2:=ι (A2.out.below hb);replace A3:=ι (A3.out.below hb);replace K:=ι (Rg.acc K.out hb);clear hb;refine Rg.lr 58 (exec_pickT (v:=.bool true) _ _ _ rfl rfl rfl) ?_;go_frame;refine Rg.lm 59 (.bool true) ?_;go_frame
 refine Rg.lW 60 (Rg.xm (.int .i64 0) _ rfl rfl) ?_;go_frame;refine Rg.lW 61 (exec_eqI _ _ rfl rfl rfl rfl) ?_;go_frame;refine Rg.lr 62 (exec_pickT (v:=.bool true) _ _ _ rfl rfl rfl) ?_;go_frame;refine Rg.lm 63 (.bool true) ?_;go_frame;refine Rg.lW 64 (Rg.xm (.slice ra2 4 rc2) _ rfl rfl) ?_;go_frame;have hnew:=ints_new w15 3 [1,2,2,1] (by decide);refine Rg.lW 65 (exec_flat _ _ 4 _ rfl [1,2,2,1] Tryz.underlying25 szInt zInt rfl (by decide) (by decide) rfl) ?_;go_frame;have hb:=(Below.refl w15.heap.size w15).alloc (Nat.le_refl _) (.cells (([1,2,2,1]:List Int).map (Value.int .i64)).toArray 3);generalize w15.alloc (.cells (([1,2,2,1]:List Int).map (Value.int .i64)).toArray 3)=w16 at *;replace H1:=ι (H1.out.below hb);replace H2:=ι (H2.out.below hb);replace H3:=ι (H3.out.below hb);replace H4:=ι (H4.out.below hb);replace A1:=ι (A1.out.below hb);replace A2:=ι (A2.out.below hb)
 replace A3:=ι (A3.out.below hb);replace K:=ι (Rg.acc K.out hb);clear hb;have A4:=ι hnew;clear hnew;refine listW_ask (some 66) rfl rfl _ _ (exec_fn 15 _ _ _ rfl rfl rfl (Bncl2 _ _)) ?_;refine (Same_any (w0:=w16) (b:=true) H2.out.i A4.out (ι (decide_eq_true rfl)) (Below.refl _ _)).mono ?_;rintro e1 w17 ⟨rfl,hb⟩;refine ⟨_,rfl,?_⟩;go_frame;replace H1:=ι (H1.out.below hb);replace H2:=ι (H2.out.below hb);replace H3:=ι (H3.out.below hb);replace H4:=ι (H4.out.below hb);replace A1:=ι (A1.out.below hb);replace A2:=ι (A2.out.below hb);replace A3:=ι (A3.out.below hb);replace A4:=ι (A4.out.below hb);replace K:=ι (Rg.acc K.out hb);clear hb;refine Rg.lr 67 (exec_pickT (v:=.bool true) _ _ _ rfl rfl rfl) ?_;go_frame;refine Rg.lm 68 (.bool true) ?_;go_frame;refine Rg.lW 69 (Rg.xm (.int .i64 0) _ rfl rfl) ?_;go_frame;refine Rg.lW 70 (exec_eqI _ _ rfl rfl rfl rfl) ?_;go_frame
 refine Rg.lr 71 (exec_pickT (v:=.bool true) _ _ _ rfl rfl rfl) ?_;go_frame;refine Rg.lm 72 (.bool true) ?_;go_frame;refine Rg.lW 73 (Rg.xm (.slice ra3 3 rc3) _ rfl rfl) ?_;go_frame;have hnew:=ints_new w17 3 [1,2,2] (by decide);refine Rg.lW 74 (exec_flat _ _ 3 _ rfl [1,2,2] Tryz.underlying25 szInt zInt rfl (by decide) (by decide) rfl) ?_;go_frame;have hb:=(Below.refl w17.heap.size w17).alloc (Nat.le_refl _) (.cells (([1,2,2]:List Int).map (Value.int .i64)).toArray 3);generalize w17.alloc (.cells (([1,2,2]:List Int).map (Value.int .i64)).toArray 3)=w18 at *;replace H1:=ι (H1.out.below hb);replace H2:=ι (H2.out.below hb);replace H3:=ι (H3.out.below hb);replace H4:=ι (H4.out.below hb);replace A1:=ι (A1.out.below hb);replace A2:=ι (A2.out.below hb);replace A3:=ι (A3.out.below hb);replace A4:=ι (A4.out.below hb);replace K:=ι (Rg.acc K.out hb);clear hb;have A5:=ι hnew
 clear hnew;refine listW_ask (some 75) rfl rfl _ _ (exec_fn 15 _ _ _ rfl rfl rfl (Bncl2 _ _)) ?_;refine (Same_any (w0:=w18) (b:=true) H3.out.i A5.out (ι (decide_eq_true rfl)) (Below.refl _ _)).mono ?_;rintro e1 w19 ⟨rfl,hb⟩;refine ⟨_,rfl,?_⟩;go_frame;replace H1:=ι (H1.out.below hb);replace H2:=ι (H2.out.below hb);replace H3:=ι (H3.out.below hb);replace H4:=ι (H4.out.below hb);replace A1:=ι (A1.out.below hb);replace A2:=ι (A2.out.below hb);replace A3:=ι (A3.out.below hb);replace A4:=ι (A4.out.below hb);replace A5:=ι (A5.out.below hb);replace K:=ι (Rg.acc K.out hb);clear hb;refine Rg.lr 76 (exec_pickT (v:=.bool true) _ _ _ rfl rfl rfl) ?_;go_frame;refine Rg.lm 77 (.bool true) ?_;go_frame;refine Rg.lW 78 (Rg.xm (.int .i64 0) _ rfl rfl) ?_;go_frame;refine Rg.lW 79 (exec_eqI _ _ rfl rfl rfl rfl) ?_;go_frame;refine Rg.lr 80 (exec_pickT (v:=.bool true) _ _ _ rfl rfl rfl) ?_;go_frame
 refine Rg.lm 81 (.bool true) ?_;go_frame;refine Rg.lW 82 (Rg.xm (.slice ra4 2 rc4) _ rfl rfl) ?_;go_frame;have hnew:=ints_new w19 3 [(-1),(-1)] (by decide);refine Rg.lW 83 (exec_flat _ _ 2 _ rfl [(-1),(-1)] Tryz.underlying26 szInt zInt rfl (by decide) (by decide) rfl) ?_;go_frame;have hb:=(Below.refl w19.heap.size w19).alloc (Nat.le_refl _) (.cells (([(-1),(-1)]:List Int).map (Value.int .i64)).toArray 3);generalize w19.alloc (.cells (([(-1),(-1)]:List Int).map (Value.int .i64)).toArray 3)=w20 at *;replace H1:=ι (H1.out.below hb);replace H2:=ι (H2.out.below hb);replace H3:=ι (H3.out.below hb);replace H4:=ι (H4.out.below hb);replace A1:=ι (A1.out.below hb);replace A2:=ι (A2.out.below hb);replace A3:=ι (A3.out.below hb);replace A4:=ι (A4.out.below hb);replace A5:=ι (A5.out.below hb);replace K:=ι (Rg.acc K.out hb);clear hb;have A6:=ι hnew;clear hnew;refine listW_ask (some 84) rfl rfl _ _ (exec_fn 15 _ _ _ rfl rfl rfl (Bncl2 _ _)) ?_
 refine (Same_any (w0:=w20) (b:=true) H4.out.i A6.out (ι (decide_eq_true rfl)) (Below.refl _ _)).mono ?_;rintro e1 w21 ⟨rfl,hb⟩;refine ⟨_,rfl,?_⟩;go_frame;replace H1:=ι (H1.out.below hb);replace H2:=ι (H2.out.below hb);replace H3:=ι (H3.out.below hb);replace H4:=ι (H4.out.below hb);replace A1:=ι (A1.out.below hb);replace A2:=ι (A2.out.below hb);replace A3:=ι (A3.out.below hb);replace A4:=ι (A4.out.below hb);replace A5:=ι (A5.out.below hb);replace A6:=ι (A6.out.below hb);replace K:=ι (Rg.acc K.out hb);clear hb;refine Rg.lr 85 (exec_pickT (v:=.bool true) _ _ _ rfl rfl rfl) ?_;go_frame;refine Rg.la 9 (.bool true) ?_;go_frame;clear A1 A2 A3 A4 A5 A6 H1 H2 H3 H4;go_upto_region 6 with (fail);refine Rg.wl ?_;refine Rg.lk 87 (exec_fn0 25 _ rfl (Bncl0 _ _)) ?_;refine (three10_any w21).mono ?_;rintro e1 w22 ⟨ga,gn,gc,rfl,hgr,hb⟩;have hgr2:=hgr.rows;refine ⟨_,rfl,?_⟩
 go_frame;replace K:=ι (Rg.acc K.out hb);clear hb;have GR:=ι (RsO.mk hgr2);refine Rg.lr 88 (exec_buildSm _ _ _ rfl rfl rfl rfl) ?_;go_frame;refine Rg.lr 89 (exec_buildSm _ _ _ rfl rfl rfl rfl) ?_;go_frame;have hst:=sta_two w22 1 0 1 1 2 0 51;refine Rg.lr 90 (exec_buildSlice2 (xv:=.agg #[.int .i64 1,.int .i64 0,.int .i64 1]) (yv:=.agg #[.int .i64 1,.int .i64 2,.int .i64 0]) _ _ _ _ rfl rfl rfl (run_build2St w22 1 0 1 1 2 0)) ?_;go_frame;have hb:=(Below.refl w22.heap.size w22).alloc (Nat.le_refl _) (.cells #[.int .i64 1,.int .i64 0,.int .i64 1,.int .i64 1,.int .i64 2,.int .i64 0] 51);generalize w22.alloc (.cells #[.int .i64 1,.int .i64 0,.int .i64 1,.int .i64 1,.int .i64 2,.int .i64 0] 51)=w23 at *;replace GR:=ι (GR.out.below hb);replace K:=ι (Rg.acc K.out hb);clear hb;have ST:=ι hst;clear hst;clear hgr hgr2;refine Rg.lk 91 (exec_fn 16 _ _ _ rfl rfl rfl (Dmcl6 _ _)) ?_
 refine (fcRun_any _ _ 3 [[1,0,2],[0,2,1]] [(1,0,1),(1,2,0)] w23 GR.out.r ST.out (by decide)).mono ?_;rintro e1 w24 ⟨rv,rl,rc,rfl,hev,hri,hb⟩;obtain ⟨rfl,rfl⟩:=rn_x hev;obtain ⟨ra1,rc1,hsh,-⟩:=hri.shape;subst hsh;clear hev;refine ⟨_,rfl,?_⟩;go_frame;replace GR:=ι (GR.out.below hb);replace ST:=ι (ST.out.below hb);replace K:=ι (Rg.acc K.out hb);clear hb;have H1:=ι (NpI.mk hri);refine Rg.lm 86 (.tuple #[.slice ra1 3 rc1,.int .i64 0]) ?_;go_frame;refine Rg.lr 92 (exec_extract (v:=.slice ra1 3 rc1) _ _ rfl rfl rfl) ?_;go_frame;refine Rg.lr 93 (exec_extract (v:=.int .i64 0) _ _ rfl rfl rfl) ?_;go_frame;refine Rg.la 10 (.slice ra1 3 rc1) ?_;go_frame;refine Rg.la 11 (.int .i64 0) ?_;go_frame;clear hri;clear GR ST;go_upto_region 7 with (fail);refine Rg.wl ?_;refine Rg.lk 95 (exec_fn0 25 _ rfl (Bncl0 _ _)) ?_;refine (three10_any w24).mono ?_;rintro e1 w25 ⟨ga,gn,gc,rfl,hgr,hb⟩
 have hgr2:=hgr.rows;refine ⟨_,rfl,?_⟩;go_frame;replace H1:=ι (H1.out.below hb);replace K:=ι (Rg.acc K.out hb);clear hb;have GR:=ι (RsO.mk hgr2);clear hgr hgr2;refine Rg.lk 96 (exec_fn 16 _ _ _ rfl rfl rfl (Dmcl6 _ _)) ?_;refine (fcRun_any _ _ 3 [[1,0,2],[0,2,1]] [] w25 GR.out.r (StA.nil _) (by decide)).mono ?_;rintro e1 w26 ⟨rv,rl,rc,rfl,hev,hri,hb⟩;obtain ⟨rfl,rfl⟩:=rn_y hev;obtain ⟨ra2,rc2,hsh,-⟩:=hri.shape;subst hsh;clear hev;refine ⟨_,rfl,?_⟩;go_frame;replace H1:=ι (H1.out.below hb);replace GR:=ι (GR.out.below hb);replace K:=ι (Rg.acc K.out hb);clear hb;have H2:=ι (NpI.mk hri);refine Rg.lm 94 (.tuple #[.slice ra2 3 rc2,.int .i64 0]) ?_;go_frame;refine Rg.lr 97 (exec_extract (v:=.slice ra2 3 rc2) _ _ rfl rfl rfl) ?_;go_frame;refine Rg.lr 98 (exec_extract (v:=.int .i64 0) _ _ rfl rfl rfl) ?_;go_frame;refine Rg.la 12 (.slice ra2 3 rc2) ?_;go_frame
 refine Rg.la 13 (.int .i64 0) ?_;go_frame;clear hri;clear GR;go_upto_region 8 with (fail);refine Rg.wl ?_;refine Rg.lk 100 (exec_fn0 25 _ rfl (Bncl0 _ _)) ?_;refine (three10_any w26).mono ?_;rintro e1 w27 ⟨ga,gn,gc,rfl,hgr,hb⟩;have hgr2:=hgr.rows;refine ⟨_,rfl,?_⟩;go_frame;replace H1:=ι (H1.out.below hb);replace H2:=ι (H2.out.below hb);replace K:=ι (Rg.acc K.out hb);clear hb;have GR:=ι (RsO.mk hgr2);refine Rg.lr 101 (exec_buildSm _ _ _ rfl rfl rfl rfl) ?_;go_frame;have hst:=sta_one w27 1 0 2 51;refine Rg.lr 102 (Rg.exec_buildSlice _ _ _ rfl (.agg #[.int .i64 1,.int .i64 0,.int .i64 2]) rfl (run_build1St w27 1 0 2)) ?_;go_frame;have hb:=(Below.refl w27.heap.size w27).alloc (Nat.le_refl _) (.cells #[.int .i64 1,.int .i64 0,.int .i64 2] 51);generalize w27.alloc (.cells #[.int .i64 1,.int .i64 0,.int .i64 2] 51)=w28 at *;replace H1:=ι (H1.out.below hb);replace H2:=ι (H2.out.below hb)
 replace GR:=ι (GR.out.below hb);replace K:=ι (Rg.acc K.out hb);clear hb;have ST:=ι hst;clear hst;clear hgr hgr2;refine Rg.lk 103 (exec_fn 16 _ _ _ rfl rfl rfl (Dmcl6 _ _)) ?_;refine (fcRun_any _ _ 3 [[1,0,2],[0,2,1]] [(1,0,2)] w28 GR.out.r ST.out (by decide)).mono ?_;rintro e1 w29 ⟨rv,rl,rc,rfl,hev,hri,hb⟩;obtain ⟨rfl,rfl⟩:=rn_z hev;obtain ⟨ra3,rc3,hsh,-⟩:=hri.shape;subst hsh;clear hev;refine ⟨_,rfl,?_⟩;go_frame;replace H1:=ι (H1.out.below hb);replace H2:=ι (H2.out.below hb);replace GR:=ι (GR.out.below hb);replace ST:=ι (ST.out.below hb);replace K:=ι (Rg.acc K.out hb);clear hb;have H3:=ι (NpI.mk hri);refine Rg.lm 99 (.tuple #[.slice ra3 0 rc3,.int .i64 2]) ?_;go_frame;refine Rg.lr 104 (exec_extract (v:=.slice ra3 0 rc3) _ _ rfl rfl rfl) ?_;go_frame;refine Rg.lr 105 (exec_extract (v:=.int .i64 2) _ _ rfl rfl rfl) ?_;go_frame;refine Rg.la 14 (.slice ra3 0 rc3) ?_;go_frame
 refine Rg.la 15 (.int .i64 2) ?_;go_frame;clear hri;clear GR ST H3;go_upto_region 9 with (fail);refine Rg.wl ?_;refine Rg.lk 107 (exec_fn0 25 _ rfl (Bncl0 _ _)) ?_;refine (three10_any w29).mono ?_;rintro e1 w30 ⟨ga,gn,gc,rfl,hgr,hb⟩;have hgr2:=hgr.rows;refine ⟨_,rfl,?_⟩;go_frame;replace H1:=ι (H1.out.below hb);replace H2:=ι (H2.out.below hb);replace K:=ι (Rg.acc K.out hb);clear hb;have GR:=ι (RsO.mk hgr2);refine Rg.lr 108 (exec_buildS0 _ rfl rfl) ?_;go_frame;have hst:=sta_one w30 3 0 0 51;refine Rg.lr 109 (Rg.exec_buildSlice _ _ _ rfl (.agg #[.int .i64 3,.int .i64 0,.int .i64 0]) rfl (run_build1St w30 3 0 0)) ?_;go_frame;have hb:=(Below.refl w30.heap.size w30).alloc (Nat.le_refl _) (.cells #[.int .i64 3,.int .i64 0,.int .i64 0] 51);generalize w30.alloc (.cells #[.int .i64 3,.int .i64 0,.int .i64 0] 51)=w31 at *;replace H1:=ι (H1.out.below hb);replace H2:=ι (H2.out.below hb)
 replace GR:=ι (GR.out.below hb);replace K:=ι (Rg.acc K.out hb);clear hb;have ST:=ι hst;clear hst;clear hgr hgr2;refine Rg.lk 110 (exec_fn 16 _ _ _ rfl rfl rfl (Dmcl6 _ _)) ?_;refine (fcRun_any _ _ 3 [[1,0,2],[0,2,1]] [(3,0,0)] w31 GR.out.r ST.out (by decide)).mono ?_;rintro e1 w32 ⟨rv,rl,rc,rfl,hev,hri,hb⟩;obtain ⟨rfl,rfl⟩:=rn_u hev;obtain ⟨ra4,rc4,hsh,-⟩:=hri.shape;subst hsh;clear hev;refine ⟨_,rfl,?_⟩;go_frame;replace H1:=ι (H1.out.below hb);replace H2:=ι (H2.out.below hb);replace GR:=ι (GR.out.below hb);replace ST:=ι (ST.out.below hb);replace K:=ι (Rg.acc K.out hb);clear hb;have H4:=ι (NpI.mk hri);refine Rg.lm 106 (.tuple #[.slice ra4 0 rc4,.int .i64 3]) ?_;go_frame;refine Rg.lr 111 (exec_extract (v:=.slice ra4 0 rc4) _ _ rfl rfl rfl) ?_;go_frame;refine Rg.lr 112 (exec_extract (v:=.int .i64 3) _ _ rfl rfl rfl) ?_;go_frame;refine Rg.la 16 (.slice ra4 0 rc4) ?_;go_frame
 refine Rg.la 17 (.int .i64 3) ?_;go_frame;clear hri;clear GR ST H4;go_upto_region 10 with (fail);refine Rg.wl ?_;refine Rg.lm 113 (.int .i64 0) ?_;go_frame;refine Rg.lr 114 (exec_eqI _ _ rfl rfl rfl rfl) ?_;go_frame;refine Rg.lm 115 (.bool true) ?_;go_frame;refine Rg.lW 116 (Rg.xm (.slice ra1 3 rc1) _ rfl rfl) ?_;go_frame;have hnew:=ints_new w32 3 [2,1,0] (by decide);refine Rg.lW 117 (exec_flat _ _ 3 _ rfl [2,1,0] Tryz.underlying30 szInt zInt rfl (by decide) (by decide) rfl) ?_;go_frame;have hb:=(Below.refl w32.heap.size w32).alloc (Nat.le_refl _) (.cells (([2,1,0]:List Int).map (Value.int .i64)).toArray 3);generalize w32.alloc (.cells (([2,1,0]:List Int).map (Value.int .i64)).toArray 3)=w33 at *;replace H1:=ι (H1.out.below hb);replace H2:=ι (H2.out.below hb);replace K:=ι (Rg.acc K.out hb);clear hb;have A1:=ι hnew;clear hnew;refine listW_ask (some 118) rfl rfl _ _ (exec_fn 15 _ _ _ rfl rfl rfl (Bncl2 _ _)) ?_
 refine (Same_any (w0:=w33) (b:=true) H1.out.i A1.out (ι (decide_eq_true rfl)) (Below.refl _ _)).mono ?_;rintro e1 w34 ⟨rfl,hb⟩;refine ⟨_,rfl,?_⟩;go_frame;replace H1:=ι (H1.out.below hb);replace H2:=ι (H2.out.below hb);replace A1:=ι (A1.out.below hb);replace K:=ι (Rg.acc K.out hb);clear hb;refine Rg.lr 119 (exec_pickT (v:=.bool true) _ _ _ rfl rfl rfl) ?_;go_frame;refine Rg.lm 120 (.bool true) ?_;go_frame;refine Rg.lW 121 (Rg.xm (.int .i64 0) _ rfl rfl) ?_;go_frame;refine Rg.lW 122 (exec_eqI _ _ rfl rfl rfl rfl) ?_;go_frame;refine Rg.lr 123 (exec_pickT (v:=.bool true) _ _ _ rfl rfl rfl) ?_;go_frame;refine Rg.lm 124 (.bool true) ?_;go_frame;refine Rg.lW 125 (Rg.xm (.slice ra2 3 rc2) _ rfl rfl) ?_;go_frame;have hnew:=ints_new w34 3 [0,1,2] (by decide);refine Rg.lW 126 (exec_flat _ _ 3 _ rfl [0,1,2] Tryz.underlying30 szInt zInt rfl (by decide) (by decide) rfl) ?_;go_frame
 have hb:=(Below.refl w34.heap.size w34).alloc (Nat.le_refl _) (.cells (([0,1,2]:List Int).map (Value.int .i64)).toArray 3);generalize w34.alloc (.cells (([0,1,2]:List Int).map (Value.int .i64)).toArray 3)=w35 at *;replace H1:=ι (H1.out.below hb);replace H2:=ι (H2.out.below hb);replace A1:=ι (A1.out.below hb);replace K:=ι (Rg.acc K.out hb);clear hb;have A2:=ι hnew;clear hnew;refine listW_ask (some 127) rfl rfl _ _ (exec_fn 15 _ _ _ rfl rfl rfl (Bncl2 _ _)) ?_;refine (Same_any (w0:=w35) (b:=true) H2.out.i A2.out (ι (decide_eq_true rfl)) (Below.refl _ _)).mono ?_;rintro e1 w36 ⟨rfl,hb⟩;refine ⟨_,rfl,?_⟩;go_frame;replace H1:=ι (H1.out.below hb);replace H2:=ι (H2.out.below hb);replace A1:=ι (A1.out.below hb);replace A2:=ι (A2.out.below hb);replace K:=ι (Rg.acc K.out hb);clear hb;refine Rg.lr 128 (exec_pickT (v:=.bool true) _ _ _ rfl rfl rfl) ?_;go_frame
 refine Rg.lm 129 (.bool true) ?_;go_frame;refine Rg.lW 130 (Rg.xm (.int .i64 2) _ rfl rfl) ?_;go_frame;refine Rg.lW 131 (exec_eqI _ _ rfl rfl rfl rfl) ?_;go_frame;refine Rg.lr 132 (exec_pickT (v:=.bool true) _ _ _ rfl rfl rfl) ?_;go_frame;refine Rg.lm 133 (.bool true) ?_;go_frame;refine Rg.lW 134 (Rg.xm (.int .i64 3) _ rfl rfl) ?_;go_frame;refine Rg.lW 135 (exec_eqI _ _ rfl rfl rfl rfl) ?_;go_frame;refine Rg.lr 136 (exec_pickT (v:=.bool true) _ _ _ rfl rfl rfl) ?_;go_frame;refine Rg.la 18 (.bool true) ?_;go_frame;clear A1 A2 H1 H2;go_upto_region 11 with (fail);refine Rg.wl ?_;refine Rg.lk 138 (exec_fn0 25 _ rfl (Bncl0 _ _)) ?_;refine (three10_any w36).mono ?_;rintro e1 w37 ⟨ga,gn,gc,rfl,hgr,hb⟩;have hgr2:=hgr.rows;refine ⟨_,rfl,?_⟩;go_frame;replace K:=ι (Rg.acc K.out hb);clear hb;have GR:=ι (RsO.mk hgr2);have hnew:=ints_new w37 3 [3] (by decide);refine Rg.lr 139 (exec_flat _ _ 1 _ rfl [3] Tryz.underlying26 szInt zInt rfl (by decide) (by decide) rfl) ?_;go_frame
 have hb:=(Below.refl w37.heap.size w37).alloc (Nat.le_refl _) (.cells (([3]:List Int).map (Value.int .i64)).toArray 3);generalize w37.alloc (.cells (([3]:List Int).map (Value.int .i64)).toArray 3)=w38 at *;replace GR:=ι (GR.out.below hb);replace K:=ι (Rg.acc K.out hb);clear hb;have A1:=ι hnew;clear hnew;clear hgr hgr2;refine Rg.lk 140 (exec_fn 13 _ _ _ rfl rfl rfl (Bncl1 _ _)) ?_;refine (fcEval_any _ _ 3 [[1,0,2],[0,2,1]] [3] w38 GR.out.r A1.out).mono ?_;rintro e1 w39 ⟨rv,rl,rc,rfl,hev,hri,hb⟩;obtain ⟨rfl,rfl⟩:=ev_n hev;obtain ⟨ra1,rc1,hsh,-⟩:=hri.shape;subst hsh;clear hev;refine ⟨_,rfl,?_⟩;go_frame;replace GR:=ι (GR.out.below hb);replace A1:=ι (A1.out.below hb);replace K:=ι (Rg.acc K.out hb);clear hb;have H1:=ι (NpI.mk hri);refine Rg.lm 137 (.tuple #[.slice ra1 0 rc1,.int .i64 2]) ?_;go_frame;refine Rg.lr 141 (exec_extract (v:=.slice ra1 0 rc1) _ _ rfl rfl rfl) ?_;go_frame
 refine Rg.lr 142 (exec_extract (v:=.int .i64 2) _ _ rfl rfl rfl) ?_;go_frame;refine Rg.la 19 (.slice ra1 0 rc1) ?_;go_frame;refine Rg.la 20 (.int .i64 2) ?_;go_frame;clear hri;clear GR A1 H1;go_upto_region 12 with (fail);refine Rg.wl ?_;refine Rg.lk 144 (exec_fn0 26 _ rfl (Dmcl3 _ _)) ?_;refine (five10_any w39).mono ?_;rintro e1 w40 ⟨ga,gn,gc,rfl,hgr,hb⟩;have hgr2:=hgr.rows;refine ⟨_,rfl,?_⟩;go_frame;replace K:=ι (Rg.acc K.out hb);clear hb;have GR:=ι (RsO.mk hgr2);have hnew:=ints_new w40 3 [1,0,2,3,4] (by decide);refine Rg.lr 145 (exec_flat _ _ 5 _ rfl [1,0,2,3,4] Tryz.underlying30 szInt zInt rfl (by decide) (by decide) rfl) ?_;go_frame;have hb:=(Below.refl w40.heap.size w40).alloc (Nat.le_refl _) (.cells (([1,0,2,3,4]:List Int).map (Value.int .i64)).toArray 3);generalize w40.alloc (.cells (([1,0,2,3,4]:List Int).map (Value.int .i64)).toArray 3)=w41 at *
 replace GR:=ι (GR.out.below hb);replace K:=ι (Rg.acc K.out hb);clear hb;have P1:=ι hnew;clear hnew;clear hgr hgr2;refine Rg.lk 146 (exec_fn 22 _ _ _ rfl rfl rfl (Dmcl1 _ _)) ?_;refine (fcLeast_any _ _ 5 [[1,2,3,4,0]] [1,0,2,3,4] w41 GR.out.r P1.out (by decide)).mono ?_;rintro e1 w42 ⟨rv,rl,rc,rfl,hev,hri,hb⟩;obtain ⟨rfl,rfl⟩:=lt_c hev;obtain ⟨ra2,rc2,hsh,-⟩:=hri.shape;subst hsh;clear hev;refine ⟨_,rfl,?_⟩;go_frame;replace GR:=ι (GR.out.below hb);replace P1:=ι (P1.out.below hb);replace K:=ι (Rg.acc K.out hb);clear hb;have H2:=ι (NpI.mk hri);refine Rg.lm 143 (.tuple #[.slice ra2 0 rc2,.int .i64 18]) ?_;go_frame;refine Rg.lr 147 (exec_extract (v:=.slice ra2 0 rc2) _ _ rfl rfl rfl) ?_;go_frame;refine Rg.lr 148 (exec_extract (v:=.int .i64 18) _ _ rfl rfl rfl) ?_;go_frame;refine Rg.la 21 (.slice ra2 0 rc2) ?_;go_frame;refine Rg.la 22 (.int .i64 18) ?_;go_frame
 clear hri;clear GR P1 H2;go_upto_region 13 with (fail);refine Rg.wl ?_;refine Rg.lk 150 (exec_fn0 26 _ rfl (Dmcl3 _ _)) ?_;refine (five10_any w42).mono ?_;rintro e1 w43 ⟨ga,gn,gc,rfl,hgr,hb⟩;have hgr2:=hgr.rows;refine ⟨_,rfl,?_⟩;go_frame;replace K:=ι (Rg.acc K.out hb);clear hb;have GR:=ι (RsO.mk hgr2);have hnew:=ints_new w43 3 [1,0,2,3,4] (by decide);refine Rg.lr 151 (exec_flat _ _ 5 _ rfl [1,0,2,3,4] Tryz.underlying30 szInt zInt rfl (by decide) (by decide) rfl) ?_;go_frame;have hb:=(Below.refl w43.heap.size w43).alloc (Nat.le_refl _) (.cells (([1,0,2,3,4]:List Int).map (Value.int .i64)).toArray 3);generalize w43.alloc (.cells (([1,0,2,3,4]:List Int).map (Value.int .i64)).toArray 3)=w44 at *;replace GR:=ι (GR.out.below hb);replace K:=ι (Rg.acc K.out hb);clear hb;have P1:=ι hnew;clear hnew;clear hgr hgr2;refine Rg.lk 152 (exec_fn 28 _ _ _ rfl rfl rfl (Dmcl8 _ _)) ?_
 refine (fcProgram_any _ _ 5 [[1,2,3,4,0]] [1,0,2,3,4] w44 GR.out.r P1.out).mono ?_;rintro e1 w45 ⟨rv,rS,rc,rfl,hev,hst9,hb⟩;obtain ⟨rfl,rfl⟩:=pg_c hev;obtain ⟨ra9,rc9,hsh,-⟩:=hst9.st;subst hsh;clear hev;refine ⟨_,rfl,?_⟩;go_frame;replace GR:=ι (GR.out.below hb);replace P1:=ι (P1.out.below hb);replace K:=ι (Rg.acc K.out hb);clear hb;refine Rg.lm 149 (.tuple #[.slice ra9 0 rc9,.int .i64 18]) ?_;go_frame;refine Rg.lr 153 (exec_extract (v:=.slice ra9 0 rc9) _ _ rfl rfl rfl) ?_;go_frame;refine Rg.lr 154 (exec_extract (v:=.int .i64 18) _ _ rfl rfl rfl) ?_;go_frame;refine Rg.la 23 (.slice ra9 0 rc9) ?_;go_frame;refine Rg.la 24 (.int .i64 18) ?_;go_frame;clear hst9;clear GR P1;go_upto_region 14 with (fail);refine Rg.wl ?_;refine Rg.lk 155 (exec_fn0 11 _ rfl (Dmcl9 _ _)) ?_;refine (awake10_any w45).mono ?_;rintro e1 w46 ⟨rfl,hb⟩;refine ⟨_,rfl,?_⟩;go_frame;replace K:=ι (Rg.acc K.out hb)
 clear hb;refine Rg.lm 156 (.bool true) ?_;go_frame;refine Rg.lW 157 (Rg.xm (.bool true) _ rfl rfl) ?_;go_frame;refine Rg.lr 158 (exec_pickT (v:=.bool true) _ _ _ rfl rfl rfl) ?_;go_frame;refine Rg.lm 159 (.bool true) ?_;go_frame;refine Rg.lW 160 (Rg.xm (.bool true) _ rfl rfl) ?_;go_frame;refine Rg.lr 161 (exec_pickT (v:=.bool true) _ _ _ rfl rfl rfl) ?_;go_frame;refine Rg.lm 162 (.bool true) ?_;go_frame;refine Rg.lW 163 (Rg.xm (.int .i64 2) _ rfl rfl) ?_;go_frame;refine Rg.lW 164 (exec_eqI _ _ rfl rfl rfl rfl) ?_;go_frame;refine Rg.lr 165 (exec_pickT (v:=.bool true) _ _ _ rfl rfl rfl) ?_;go_frame;refine Rg.lm 166 (.bool true) ?_;go_frame;refine Rg.lW 167 (Rg.xm (.int .i64 18) _ rfl rfl) ?_;go_frame;refine Rg.lW 168 (exec_eqI _ _ rfl rfl rfl rfl) ?_;go_frame;refine Rg.lr 169 (exec_pickT (v:=.bool true) _ _ _ rfl rfl rfl) ?_;go_frame;refine Rg.lm 170 (.bool true) ?_;go_frame;refine Rg.lW 171 (Rg.xm (.int .i64 18) _ rfl rfl) ?_;go_frame
 refine Rg.lW 172 (exec_eqI _ _ rfl rfl rfl rfl) ?_;go_frame;refine Rg.lr 173 (exec_pickT (v:=.bool true) _ _ _ rfl rfl rfl) ?_;go_frame;refine Rg.la 0 (.bool true) ?_;go_frame;go_wp2;go_ret;exact ⟨rfl,K.out⟩
end Go.Proofs.YtdnmmibchbceeaaGreat

namespace Go.Proofs.YtdnmmibchbceeaaGreat
open Go.RowKit
open Go.Proofs
open Go.Proofs.Ob
open Go.Proofs.Cm (Gd)
attribute [local irreducible] Go.Calls Go.wpList
structure IB (w:World) (v:Value) (l:List Int):Prop where
 i:Rg.IntsB maxLen w v l
theorem IB.below {w w':World} {v:Value} {l:List Int} (h:IB w v l) (hb:Below w.heap.size w w'):IB w' v l:=⟨Rg.IntsB.below h.i hb⟩
theorem ChAns.zero {w:World} {d:Int} {ll:List (List Int)} {cv:Value} {c:Int} (h:ChAns w d ll cv c) (hc:c≠0):cv=zeroC:=by
 rcases h with ⟨_,h⟩ | ⟨h,_⟩
 ·exact h
 ·exact absurd h hc
theorem gchk_good {D:Nat} (h1:1≤D) (h2:D≤64) {gs:List (List Nat)} (hl:gs.length≤16) (h:∀ s∈gs,Gd D s):Ma.gchk ((D:Nat):Int) (gs.map Ma.ofN)=0:=by
 unfold Ma.gchk;rw [if_pos (by omega),if_pos (by rw [List.length_map]; exact hl)];exact gck_good h1 h2 h
end Go.Proofs.YtdnmmibchbceeaaGreat

namespace Go.Proofs.YtdnmmibchbceeaaGreat
open Go.RowKit
open Go.Proofs
open Go.Proofs.Ob
open Go.Proofs.Cm (Gd Gr IsChain ap)
attribute [local irreducible] Go.Calls Go.wpList
theorem Dncl2 (args:Array Value) (w:World):(callFunc 50 args).run Tryz.prog w=.ok (.enter 50 args) w:=by kernel_rfl
theorem fine_yes {N:Nat} {gs:List (List Nat)} (hg:∀ s∈gs,Gd N s) (hn1:1≤N) (hn2:N≤64) (hgl:gs.length≤16) (gv wv:Value) (u:List Int) (w:World) (h:Rg.Rows w gv (gs.map Ma.ofN)) (hu:Rg.Ints w wv u) (hul:u.length≤100000) (ho:okW gs.length u) :
  Calls Tryz.prog 31 #[.agg #[.int .i64 ((N:Nat):Int),gv],wv] w fun e w'=>e=.returned (.bool true)∧Below w.heap.size w w':=by
 obtain ⟨wa,wc,rfl,-,-,hum,-⟩:=hu.shape;have HU0:=ι (NpI.mk hu);have HGD:=ι hg;have HO:=ι ho;have HGL:=ι hgl;clear hu hg ho;obtain ⟨ga,gc,rfl,hga,hba⟩:=GI.enter (((N:Nat):Int)) h;have K:=ι hba;have G0:=ι hga;clear h hga hba;replace HU0:=ι (HU0.out.below ((Below.refl _ _).alloc (Nat.le_refl _) (.cells #[.int .i64 ((N:Nat):Int),.slice ga (gs.map Ma.ofN).length gc] 24)))
 go_enter Tryz.func31,Tryz.ntmps31
 go_upto_region 0 with (fail);refine Rg.wl ?_;refine Rg.lr 2 (Rg.exec_box _ _ rfl rfl) ?_;go_frame;refine Rg.la 4 (.bool false) ?_;go_frame;obtain ⟨gb,hgb⟩:∃ gb,w.heap.size=gb:=⟨_,rfl⟩;rw [hgb] at G0 ⊢;generalize w.alloc (.cells #[.int .i64 ((N:Nat):Int),.slice ga (gs.map Ma.ofN).length gc] 24)=w0 at *;clear hgb;go_upto_region 1 with (fail);refine Rg.wl ?_;refine Rg.la 5 (.int .i64 ((0:Nat):Int)) ?_;go_frame;go_wp2
 go_loopw [5] (fun iv wr=>∃ i:Nat,iv=.int .i64 ((i:Nat):Int)∧i≤u.length∧Hid (Below w0.heap.size w0 wr)) (fun iv _=>u.length - (intOf iv).toNat)
 case atStart=>exact ⟨0,rfl,Nat.zero_le _,ι (Below.refl _ _)⟩
 case round =>
  obtain ⟨i,rfl,hi,KR⟩:=hrel;replace G0:=ι (G0.out.below KR.out);replace HU0:=ι (HU0.out.below KR.out);have KL:=ι (Rg.acc K.out KR.out)
  by_cases hil:i<u.length
  case neg =>
   skip
   go_upto_region 2 with (fail);refine Rg.wl ?_;refine Rg.lm 6 (.int .i64 ((i:Nat):Int)) ?_;go_frame;refine Rg.lm 7 (.slice wa u.length wc) ?_;go_frame;refine Rg.lr 8 (exec_len _ _ _ rfl Tryz.underlying26 _ _ _ rfl) ?_;go_frame;refine Rg.lr 9 (exec_bin (R:=.bool false) .lss _ _ _ rfl rfl rfl (b_lss _ Rg.dF)) ?_;go_frame;go_upto_region 6 with (fail);refine Rg.wl ?_;refine Rg.la 4 (.bool true) ?_;go_frame;go_wp2;go_ret;exact ⟨rfl,KL.out⟩
  case pos =>
   obtain ⟨b,o,e1,hb0,hc0⟩:=ints_get HU0.out.i hil;subst e1;obtain ⟨x,hx⟩:∃ x,Hid (u[i]'hil=x):=⟨_,ι rfl⟩;rw [hx.out] at hc0;have CX:=ι (CL.mk hc0 hb0);have HIL:=ι hil;have HXO:=ι (show x≠0∧x≤(gs.length:Int)∧-(gs.length:Int)≤x from hx.out▸HO.out _ (List.getElem_mem hil));clear hb0 hc0
   have hq16:(gs.map Ma.ofN).length≤16:=by rw [List.length_map]; exact HGL.out
   have hx0:x≠0:=HXO.out.1
   have hx1:x≤((gs.map Ma.ofN).length:Int):=by rw [List.length_map]; exact HXO.out.2.1
   have hx2:-((gs.map Ma.ofN).length:Int)≤x:=by rw [List.length_map]; exact HXO.out.2.2
   clear KL;go_upto_region 2 with (fail);refine Rg.wl ?_;refine Rg.lm 6 (.int .i64 ((i:Nat):Int)) ?_;go_frame;refine Rg.lm 7 (.slice (some ⟨b,o,none⟩) u.length wc) ?_;go_frame;refine Rg.lr 8 (exec_len _ _ _ rfl Tryz.underlying26 _ _ _ rfl) ?_;go_frame;refine Rg.lr 9 (exec_bin (R:=.bool true) .lss _ _ _ rfl rfl rfl (b_lss _ Rg.dT)) ?_;go_frame;go_upto_region 4 with (fail);have hV0:Below wr.heap.size wr wr.drew:=(Below.refl _ _).drew;replace G0:=ι (G0.out.below hV0);replace HU0:=ι (HU0.out.below hV0);replace CX:=ι (CX.out.below hV0);replace KR:=ι (Rg.acc KR.out hV0);clear hV0;refine Rg.Any.begin (S:=Rg.Both 25 (fun _=>True) (fun W=>Below wr.drew.heap.size wr.drew W)) mix ?_;generalize wr.drew=w21 at *;have hS:∀ (l:Array Bool) W,Below w21.heap.size w21 W→Rg.Both 25 (fun _=>True) (fun W=>Below w21.heap.size w21 W) l W:=fun l W h=>⟨.inr trivial,h⟩;have hI:Below w21.heap.size w21 w21:=Below.refl _ _
   refine Rg.tm 0 25 (.slice (some ⟨b,o,none⟩) u.length wc) 12 (hS _ _ hI) ?_;go_frame;refine Rg.tm 1 25 (.int .i64 ((i:Nat):Int)) 13 (hS _ _ hI) ?_;go_frame;refine Rg.tg 2 25 (.pointer (some ⟨b,o+i,none⟩)) 14 rfl rfl (Rg.yields_index slWord _ _ rfl rfl b (o) (u.length) wc (i) rfl rfl HIL.out) (hS _ _ hI) ?_;go_frame;refine Rg.tg 3 25 (.int .i64 x) 15 rfl rfl (Rg.yields_cell _ _ rfl rfl ⟨b,o+i,none⟩ rfl (fun W hW=>run_loadInt ((Below.cell (p:=⟨b,o+i,none⟩) hW CX.out.lt).trans CX.out.cell))) (hS _ _ hI) ?_;go_frame;refine Rg.tg 4 25 (.bool false) 16 rfl rfl (.inl ⟨rfl,fun w _=>exec_bin (R:=.bool false) .eql _ _ _ rfl rfl rfl (b_eql _ (decide_eq_false hx0))⟩) (hS _ _ hI) ?_;go_frame;refine Rg.tm 5 25 (.bool false) 17 (hS _ _ hI) ?_;go_frame;refine Rg.tm 6 25 (.slice (some ⟨b,o,none⟩) u.length wc) 18 (hS _ _ hI) ?_;go_frame;refine Rg.tm 7 25 (.int .i64 ((i:Nat):Int)) 19 (hS _ _ hI) ?_;go_frame
   refine Rg.tg 8 25 (.pointer (some ⟨b,o+i,none⟩)) 20 rfl rfl (Rg.yields_index slWord _ _ rfl rfl b (o) (u.length) wc (i) rfl rfl HIL.out) (hS _ _ hI) ?_;go_frame;refine Rg.tg 9 25 (.int .i64 x) 21 rfl rfl (Rg.yields_cell _ _ rfl rfl ⟨b,o+i,none⟩ rfl (fun W hW=>run_loadInt ((Below.cell (p:=⟨b,o+i,none⟩) hW CX.out.lt).trans CX.out.cell))) (hS _ _ hI) ?_;go_frame;refine Rg.tg 10 25 (.pointer (some ⟨gb,1,none⟩)) 22 rfl rfl (.inl ⟨rfl,fun w _=>exec_fieldG _ rfl rfl⟩) (hS _ _ hI) ?_;go_frame;refine Rg.tg 11 25 (.slice ga (gs.map Ma.ofN).length gc) 23 rfl rfl (Rg.yields_cell _ _ rfl rfl ⟨gb,1,none⟩ rfl (fun W hW=>Rg.run_loadSl _ _ Tryz.underlying22 ((Below.cell (p:=⟨gb,1,none⟩) hW G0.out.lt).trans G0.out.c1))) (hS _ _ hI) ?_;go_frame;refine Rg.tg 12 25 (.int .i64 (((gs.map Ma.ofN).length:Nat):Int)) 24 rfl rfl (.inl ⟨rfl,fun w _=>exec_len _ _ _ rfl Tryz.underlying22 _ _ _ rfl⟩) (hS _ _ hI) ?_;go_frame
   refine Rg.tg 13 25 (.bool false) 25 rfl rfl (.inl ⟨rfl,fun w _=>exec_bin (R:=.bool false) .gtr _ _ _ rfl rfl rfl (b_gtr _ Rg.dF)⟩) (hS _ _ hI) ?_;go_frame;refine Rg.tg 14 25 (.bool false) 26 rfl rfl (.inl ⟨rfl,fun w _=>exec_pickF _ _ _ rfl rfl rfl⟩) (hS _ _ hI) ?_;go_frame;refine Rg.tm 15 25 (.bool false) 27 (hS _ _ hI) ?_;go_frame;refine Rg.tm 16 25 (.slice (some ⟨b,o,none⟩) u.length wc) 28 (hS _ _ hI) ?_;go_frame;refine Rg.tm 17 25 (.int .i64 ((i:Nat):Int)) 29 (hS _ _ hI) ?_;go_frame;refine Rg.tg 18 25 (.pointer (some ⟨b,o+i,none⟩)) 30 rfl rfl (Rg.yields_index slWord _ _ rfl rfl b (o) (u.length) wc (i) rfl rfl HIL.out) (hS _ _ hI) ?_;go_frame;refine Rg.tg 19 25 (.int .i64 x) 31 rfl rfl (Rg.yields_cell _ _ rfl rfl ⟨b,o+i,none⟩ rfl (fun W hW=>run_loadInt ((Below.cell (p:=⟨b,o+i,none⟩) hW CX.out.lt).trans CX.out.cell))) (hS _ _ hI) ?_;go_frame;refine Rg.tg 20 25 (.pointer (some ⟨gb,1,none⟩)) 32 rfl rfl (.inl ⟨rfl,fun w _=>exec_fieldG _ rfl rfl⟩) (hS _ _ hI) ?_;go_frame
   refine Rg.tg 21 25 (.slice ga (gs.map Ma.ofN).length gc) 33 rfl rfl (Rg.yields_cell _ _ rfl rfl ⟨gb,1,none⟩ rfl (fun W hW=>Rg.run_loadSl _ _ Tryz.underlying22 ((Below.cell (p:=⟨gb,1,none⟩) hW G0.out.lt).trans G0.out.c1))) (hS _ _ hI) ?_;go_frame;refine Rg.tg 22 25 (.int .i64 (((gs.map Ma.ofN).length:Nat):Int)) 34 rfl rfl (.inl ⟨rfl,fun w _=>exec_len _ _ _ rfl Tryz.underlying22 _ _ _ rfl⟩) (hS _ _ hI) ?_;go_frame;refine Rg.Any.takeG (i:=23) (t:=25) (v:=.int .i64 (-(((gs.map Ma.ofN).length:Nat):Int))) (some 35) rfl rfl (by kernel_rfl) (by kernel_rfl) (by kernel_rfl) (fun _ _ _ h=>h) rfl (.inl ⟨rfl,fun w _=>exec_neg _ rfl rfl rfl (by omega)⟩) (hS _ _ hI) ?_;go_frame;refine Rg.tg 24 25 (.bool false) 36 rfl rfl (.inl ⟨rfl,fun w _=>exec_bin (R:=.bool false) .lss _ _ _ rfl rfl rfl (b_lss _ Rg.dF)⟩) (hS _ _ hI) ?_;go_frame;refine Rg.Any.one (i:=25) (by kernel_rfl) (Rg.Any.run (some 37) rfl rfl rfl (exec_pickF _ _ _ rfl rfl rfl) (hS _ _ hI) ?_)
   go_frame;refine Rg.Any.done (by kernel_rfl) ?_ _;clear hS hI;go_upto_region 3 with (fail);refine Rg.wl ?_;refine Rg.lm 10 (.int .i64 ((i:Nat):Int)) ?_;go_frame;refine Rg.lr 11 (exec_bin (R:=.int .i64 (((i+1):Nat):Int)) .add _ _ _ rfl rfl rfl (b_add _ (by omega) (by omega))) ?_;go_frame;refine Rg.la 5 (.int .i64 (((i+1):Nat):Int)) ?_;go_frame;go_wp2
   go_roundw
   case rel=>exact ⟨i+1,by go_num,HIL.out,KR⟩
   case measure=>simp [intOf]; have:=HIL.out; omega
theorem lawValue_any {N:Nat} {gs:List (List Nat)} (hg:∀ s∈gs,Gd N s) (hn1:1≤N) (hn2:N≤64) (hgl:gs.length≤16) (gv wv:Value) (u:List Int) (w:World) (h:Rg.Rows w gv (gs.map Ma.ofN)) (hu:Rg.Ints w wv u) (hul:u.length≤100000) (ho:okW gs.length u) :
  Calls Tryz.prog 32 #[.agg #[.int .i64 ((N:Nat):Int),gv],wv] w fun e w'=>∃ v,e=.returned v∧Rg.Ints w' v (Ma.ofN (evN N gs u))∧Below w.heap.size w w':=by
 obtain ⟨wa,wc,rfl,-,-,hum,-⟩:=hu.shape;have HU0:=ι (NpI.mk hu);have HGD:=ι hg;have HO:=ι ho;have HGL:=ι hgl;clear hu hg ho;obtain ⟨ga,gc,rfl,hga,hba⟩:=GI.enter (((N:Nat):Int)) h;have K:=ι hba;have G0:=ι hga;clear h hga hba;replace HU0:=ι (HU0.out.below ((Below.refl _ _).alloc (Nat.le_refl _) (.cells #[.int .i64 ((N:Nat):Int),.slice ga (gs.map Ma.ofN).length gc] 24)))
 go_enter Tryz.func32,Tryz.ntmps32
 go_upto_region 0 with (fail);refine Rg.wl ?_;refine Rg.lr 2 (Rg.exec_box _ _ rfl rfl) ?_;go_frame;refine Rg.la 4 (.slice none 0 0) ?_;go_frame;obtain ⟨gb,hgb⟩:∃ gb,w.heap.size=gb:=⟨_,rfl⟩;rw [hgb] at G0 ⊢;generalize w.alloc (.cells #[.int .i64 ((N:Nat):Int),.slice ga (gs.map Ma.ofN).length gc] 24)=w0 at *;clear hgb;go_upto_region 1 with (fail);refine Rg.wl ?_;refine Rg.lr 7 (exec_fieldG0 _ rfl rfl) ?_;go_frame;refine Rg.lr 8 (Rg.exec_load (v:=.int .i64 ((N:Nat):Int)) _ _ rfl ⟨gb,0,none⟩ rfl (run_loadInt G0.out.c0)) ?_;go_frame;refine Rg.lk 9 (exec_fn1 37 _ _ rfl rfl (Zkcl0 _ _)) ?_;refine (kitOne_any N w0 (by omega)).mono ?_;rintro e1 w1 ⟨ov,rfl,hov,hb⟩;refine ⟨_,rfl,?_⟩;go_frame;replace G0:=ι (G0.out.below hb);replace HU0:=ι (HU0.out.below hb);replace K:=ι (Rg.acc K.out hb);clear hb;have NV:=ι (NpI.mk hov.1);refine Rg.la 5 (ov) ?_;go_frame;clear hov
 go_upto_region 2 with (fail);refine Rg.wl ?_;refine Rg.la 6 (.int .i64 ((0:Nat):Int)) ?_;go_frame;have K1:=ι (Below.refl w1.heap.size w1);have GQ0:=ι (Cm.gd_one N);go_wp2
 go_loopw [5,6] (fun vv iv wr=>∃ (i:Nat) (q2:List Nat),iv=.int .i64 ((i:Nat):Int)∧i≤u.length∧Hid (NpI wr vv (Ma.ofN q2))∧Hid (Gd N q2)∧Hid ((u.take i).foldl (fun p x=>Ma.mulN p (ltV gs x)) (Ma.oneN N)=q2)∧Hid (Below w1.heap.size w1 wr)) (fun _ iv _=>u.length - (intOf iv).toNat)
 case atStart=>exact ⟨0,Ma.oneN N,rfl,Nat.zero_le _,NV,GQ0,ι rfl,K1⟩
 case round =>
  clear NV GQ0 K1;obtain ⟨i,q2,rfl,hi,NQ,GQ,HE,KR⟩:=hrel;obtain ⟨va,vc,rfl,-⟩:=NQ.out.i.shape;replace G0:=ι (G0.out.below KR.out);replace HU0:=ι (HU0.out.below KR.out);have KL:=ι (Rg.acc K.out KR.out)
  by_cases hil:i<u.length
  case neg =>
   have HTT:=ι (show u.foldl (fun p x=>Ma.mulN p (ltV gs x)) (Ma.oneN N)=q2 by rw [← HE.out,List.take_of_length_le (by omega)]);go_upto_region 3 with (fail);refine Rg.wl ?_;refine Rg.lm 10 (.int .i64 ((i:Nat):Int)) ?_;go_frame;refine Rg.lm 11 (.slice wa u.length wc) ?_;go_frame;refine Rg.lr 12 (exec_len _ _ _ rfl Tryz.underlying26 _ _ _ rfl) ?_;go_frame;refine Rg.lr 13 (exec_bin (R:=.bool false) .lss _ _ _ rfl rfl rfl (b_lss _ Rg.dF)) ?_;go_frame;go_upto_region 8 with (fail);refine Rg.wl ?_;refine Rg.lm 45 (.slice va (Ma.ofN q2).length vc) ?_;go_frame;refine Rg.la 4 (.slice va (Ma.ofN q2).length vc) ?_;go_frame;go_wp2;go_ret;exact ⟨_,rfl,by show Rg.Ints _ _ (Ma.ofN (u.foldl (fun p x=>Ma.mulN p (ltV gs x)) (Ma.oneN N))); rw [HTT.out]; exact NQ.out.i,KL.out⟩
  case pos =>
   obtain ⟨b,o,e1,hb0,hc0⟩:=ints_get HU0.out.i hil;subst e1;obtain ⟨x,hx⟩:∃ x,Hid (u[i]'hil=x):=⟨_,ι rfl⟩;rw [hx.out] at hc0;have CX:=ι (CL.mk hc0 hb0);have HIL:=ι hil;have HXO:=ι (show x≠0∧x≤(gs.length:Int)∧-(gs.length:Int)≤x from hx.out▸HO.out _ (List.getElem_mem hil));clear hb0 hc0;have HEN:=ι (show (u.take (i+1)).foldl (fun p x=>Ma.mulN p (ltV gs x)) (Ma.oneN N)=Ma.mulN q2 (ltV gs x) by rw [List.take_succ_eq_append_getElem hil,List.foldl_append,HE.out,hx.out]; rfl);have GLX:=ι (ltV_gd HGD.out HXO.out)
   have hi9:i<100000:=by omega
   clear KL
   by_cases h0:0<x
   case pos =>
    obtain ⟨k,rfl⟩:∃ k:Nat,x=((k:Nat):Int)+1:=⟨(x - 1).toNat,by omega⟩
    have hk:k<gs.length:=by have:=HXO.out; omega
    have HLV:=ι (ltV_pos hk);have HK:=ι hk;generalize hs0:gs[k]'hk=s at HLV;have hs:=ι hs0;clear hs0;have GS:=ι (show Gd N s from hs.out▸HGD.out _ (List.getElem_mem _));obtain ⟨b1,o1,sa,sc,e1,hb1,hc1,hr1⟩:=rows_get G0.out.rows (i:=k) (by rw [List.length_map]; exact hk);subst e1
    have e5:((gs.map Ma.ofN)[k]'(by rw [List.length_map]; exact hk))=Ma.ofN s:=by rw [List.getElem_map,hs.out]
    rw [e5] at hc1 hr1;have CS:=ι (CL.mk hc1 hb1);have NS:=ι (NpI.mk hr1)
    have hk16:k<16:=by have:=HGL.out; omega
    clear hc1 hb1 hr1 e5;go_upto_region 3 with (fail);refine Rg.wl ?_;refine Rg.lm 10 (.int .i64 ((i:Nat):Int)) ?_;go_frame;refine Rg.lm 11 (.slice (some ⟨b,o,none⟩) u.length wc) ?_;go_frame;refine Rg.lr 12 (exec_len _ _ _ rfl Tryz.underlying26 _ _ _ rfl) ?_;go_frame;refine Rg.lr 13 (exec_bin (R:=.bool true) .lss _ _ _ rfl rfl rfl (b_lss _ Rg.dT)) ?_;go_frame;go_upto_region 5 with (fail);refine Rg.wl ?_;refine Rg.lm 16 (.slice (some ⟨b,o,none⟩) u.length wc) ?_;go_frame;refine Rg.lm 17 (.int .i64 ((i:Nat):Int)) ?_;go_frame;refine Rg.lr 18 (exec_indexS slWord _ _ rfl b (o) (u.length) wc (i) rfl rfl HIL.out) ?_;go_frame;refine Rg.lr 19 (Rg.exec_load (v:=.int .i64 (((k:Nat):Int)+1)) _ _ rfl ⟨b,o+i,none⟩ rfl (run_loadInt CX.out.cell)) ?_;go_frame;refine Rg.lr 20 (exec_bin (R:=.bool true) .gtr _ _ _ rfl rfl rfl (b_gtr _ (decide_eq_true h0))) ?_;go_frame;go_upto_region 6 with (fail)
    have hV0:Below wr.heap.size wr wr.drew:=(Below.refl _ _).drew;replace G0:=ι (G0.out.below hV0);replace HU0:=ι (HU0.out.below hV0);replace NQ:=ι (NQ.out.below hV0);replace CX:=ι (CX.out.below hV0);replace CS:=ι (CS.out.below hV0);replace NS:=ι (NS.out.below hV0);replace KR:=ι (Rg.acc KR.out hV0);clear hV0;refine Rg.Any.begin (S:=Rg.Both 11 (fun _=>True) (fun W=>Below wr.drew.heap.size wr.drew W)) mix ?_;generalize wr.drew=w22 at *;have hS:∀ (l:Array Bool) W,Below w22.heap.size w22 W→Rg.Both 11 (fun _=>True) (fun W=>Below w22.heap.size w22 W) l W:=fun l W h=>⟨.inr trivial,h⟩;have hI:Below w22.heap.size w22 w22:=Below.refl _ _;refine Rg.tm 0 11 (.slice va (Ma.ofN q2).length vc) 21 (hS _ _ hI) ?_;go_frame;refine Rg.tg 1 11 (.pointer (some ⟨gb,1,none⟩)) 22 rfl rfl (.inl ⟨rfl,fun w _=>exec_fieldG _ rfl rfl⟩) (hS _ _ hI) ?_;go_frame;refine Rg.tg 2 11 (.slice (some ⟨b1,o1,none⟩) (gs.map Ma.ofN).length gc) 23 rfl rfl (Rg.yields_cell _ _ rfl rfl ⟨gb,1,none⟩ rfl (fun W hW=>Rg.run_loadSl _ _ Tryz.underlying22 ((Below.cell (p:=⟨gb,1,none⟩) hW G0.out.lt).trans G0.out.c1))) (hS _ _ hI) ?_;go_frame
    refine Rg.tm 3 11 (.slice (some ⟨b,o,none⟩) u.length wc) 24 (hS _ _ hI) ?_;go_frame;refine Rg.tm 4 11 (.int .i64 ((i:Nat):Int)) 25 (hS _ _ hI) ?_;go_frame;refine Rg.tg 5 11 (.pointer (some ⟨b,o+i,none⟩)) 26 rfl rfl (Rg.yields_index slWord _ _ rfl rfl b (o) (u.length) wc (i) rfl rfl HIL.out) (hS _ _ hI) ?_;go_frame;refine Rg.tg 6 11 (.int .i64 (((k:Nat):Int)+1)) 27 rfl rfl (Rg.yields_cell _ _ rfl rfl ⟨b,o+i,none⟩ rfl (fun W hW=>run_loadInt ((Below.cell (p:=⟨b,o+i,none⟩) hW CX.out.lt).trans CX.out.cell))) (hS _ _ hI) ?_;go_frame;refine Rg.tg 7 11 (.int .i64 ((k:Nat):Int)) 28 rfl rfl (.inl ⟨rfl,fun w _=>exec_bin (R:=.int .i64 ((k:Nat):Int)) .sub _ _ _ rfl rfl rfl (b_sub _ (by omega) (by omega))⟩) (hS _ _ hI) ?_;go_frame;refine Rg.tg 8 11 (.pointer (some ⟨b1,o1+k,none⟩)) 29 rfl rfl (Rg.yields_index slPerms _ _ rfl rfl b1 (o1) ((gs.map Ma.ofN).length) gc (k) rfl rfl (by rw [List.length_map]; exact HK.out)) (hS _ _ hI) ?_;go_frame
    refine Rg.tg 9 11 ((.slice sa (Ma.ofN s).length sc)) 30 rfl rfl (Rg.yields_cell _ _ rfl rfl ⟨b1,o1+k,none⟩ rfl (fun W hW=>Rg.run_loadSl _ _ Tryz.underlying30 ((Below.cell (p:=⟨b1,o1+k,none⟩) hW CS.out.lt).trans CS.out.cell))) (hS _ _ hI) ?_;go_frame;refine Rg.Any.one (i:=10) (by kernel_rfl) (Rg.Any.ask (some 31) rfl rfl rfl _ _ (exec_fn 34 _ _ _ rfl rfl rfl (Zlcl4 _ _)) ?_);refine (kitMul_any _ _ q2 s w22 NQ.out.i NS.out.i (fun z hz=>by rw [GS.out.2]; exact gd_mem GQ.out hz) (by rw [GQ.out.2]; omega)).mono ?_;rintro e1 w23 ⟨mv,rfl,hmv,hb⟩;have hI2_0:=Rg.acc hI hb;clear hb hI;refine ⟨_,rfl,(hS _ _ hI2_0),?_⟩;go_frame;have NM:=ι (NpI.mk hmv.1);refine Rg.Any.one (i:=11) (by kernel_rfl) (Rg.Any.run (some 5) rfl rfl rfl (Rg.xa (mv) _ rfl rfl) (hS _ _ hI2_0) ?_);go_frame;refine Rg.Any.done (by kernel_rfl) ?_ _;replace G0:=ι (G0.out.below hI2_0);replace HU0:=ι (HU0.out.below hI2_0)
    replace NQ:=ι (NQ.out.below hI2_0);replace CX:=ι (CX.out.below hI2_0);replace CS:=ι (CS.out.below hI2_0);replace NS:=ι (NS.out.below hI2_0);replace KR:=ι (Rg.acc KR.out hI2_0);clear hS hI2_0;rw [← HLV.out] at NM;clear hmv;go_upto_region 4 with (fail);refine Rg.wl ?_;refine Rg.lm 14 (.int .i64 ((i:Nat):Int)) ?_;go_frame;refine Rg.lr 15 (exec_bin (R:=.int .i64 (((i+1):Nat):Int)) .add _ _ _ rfl rfl rfl (b_add _ (by omega) (by omega))) ?_;go_frame;refine Rg.la 6 (.int .i64 (((i+1):Nat):Int)) ?_;go_frame;go_wp2
    go_roundw
    case rel=>exact ⟨i+1,_,by go_num,HIL.out,NM,ι (Cm.gd_mul GQ.out GLX.out),HEN,KR⟩
    case measure=>simp [intOf]; have:=HIL.out; omega
   case neg =>
    obtain ⟨k,rfl⟩:∃ k:Nat,x = -((k:Nat):Int) - 1:=⟨(-x - 1).toNat,by have:=HXO.out; omega⟩
    have hk:k<gs.length:=by have:=HXO.out; omega
    have HLV:=ι (ltV_neg hk);have HK:=ι hk;generalize hs0:gs[k]'hk=s at HLV;have hs:=ι hs0;clear hs0;have GS:=ι (show Gd N s from hs.out▸HGD.out _ (List.getElem_mem _));obtain ⟨b1,o1,sa,sc,e1,hb1,hc1,hr1⟩:=rows_get G0.out.rows (i:=k) (by rw [List.length_map]; exact hk);subst e1
    have e5:((gs.map Ma.ofN)[k]'(by rw [List.length_map]; exact hk))=Ma.ofN s:=by rw [List.getElem_map,hs.out]
    rw [e5] at hc1 hr1;have CS:=ι (CL.mk hc1 hb1);have NS:=ι (NpI.mk hr1)
    have hk16:k<16:=by have:=HGL.out; omega
    clear hc1 hb1 hr1 e5;go_upto_region 3 with (fail);refine Rg.wl ?_;refine Rg.lm 10 (.int .i64 ((i:Nat):Int)) ?_;go_frame;refine Rg.lm 11 (.slice (some ⟨b,o,none⟩) u.length wc) ?_;go_frame;refine Rg.lr 12 (exec_len _ _ _ rfl Tryz.underlying26 _ _ _ rfl) ?_;go_frame;refine Rg.lr 13 (exec_bin (R:=.bool true) .lss _ _ _ rfl rfl rfl (b_lss _ Rg.dT)) ?_;go_frame;go_upto_region 5 with (fail);refine Rg.wl ?_;refine Rg.lm 16 (.slice (some ⟨b,o,none⟩) u.length wc) ?_;go_frame;refine Rg.lm 17 (.int .i64 ((i:Nat):Int)) ?_;go_frame;refine Rg.lr 18 (exec_indexS slWord _ _ rfl b (o) (u.length) wc (i) rfl rfl HIL.out) ?_;go_frame;refine Rg.lr 19 (Rg.exec_load (v:=.int .i64 (-((k:Nat):Int) - 1)) _ _ rfl ⟨b,o+i,none⟩ rfl (run_loadInt CX.out.cell)) ?_;go_frame;refine Rg.lr 20 (exec_bin (R:=.bool false) .gtr _ _ _ rfl rfl rfl (b_gtr _ (decide_eq_false h0))) ?_;go_frame;go_upto_region 7 with (fail)
    have hV0:Below wr.heap.size wr wr.drew:=(Below.refl _ _).drew;replace G0:=ι (G0.out.below hV0);replace HU0:=ι (HU0.out.below hV0);replace NQ:=ι (NQ.out.below hV0);replace CX:=ι (CX.out.below hV0);replace CS:=ι (CS.out.below hV0);replace NS:=ι (NS.out.below hV0);replace KR:=ι (Rg.acc KR.out hV0);clear hV0;refine Rg.Any.begin (S:=Rg.Both 13 (fun _=>True) (fun W=>Below wr.drew.heap.size wr.drew W)) mix ?_;generalize wr.drew=w62 at *;have hS:∀ (l:Array Bool) W,Below w62.heap.size w62 W→Rg.Both 13 (fun _=>True) (fun W=>Below w62.heap.size w62 W) l W:=fun l W h=>⟨.inr trivial,h⟩;have hI:Below w62.heap.size w62 w62:=Below.refl _ _;refine Rg.tm 0 13 (.slice va (Ma.ofN q2).length vc) 32 (hS _ _ hI) ?_;go_frame;refine Rg.tg 1 13 (.pointer (some ⟨gb,1,none⟩)) 33 rfl rfl (.inl ⟨rfl,fun w _=>exec_fieldG _ rfl rfl⟩) (hS _ _ hI) ?_;go_frame;refine Rg.tg 2 13 (.slice (some ⟨b1,o1,none⟩) (gs.map Ma.ofN).length gc) 34 rfl rfl (Rg.yields_cell _ _ rfl rfl ⟨gb,1,none⟩ rfl (fun W hW=>Rg.run_loadSl _ _ Tryz.underlying22 ((Below.cell (p:=⟨gb,1,none⟩) hW G0.out.lt).trans G0.out.c1))) (hS _ _ hI) ?_;go_frame
    refine Rg.tm 3 13 (.slice (some ⟨b,o,none⟩) u.length wc) 35 (hS _ _ hI) ?_;go_frame;refine Rg.tm 4 13 (.int .i64 ((i:Nat):Int)) 36 (hS _ _ hI) ?_;go_frame;refine Rg.tg 5 13 (.pointer (some ⟨b,o+i,none⟩)) 37 rfl rfl (Rg.yields_index slWord _ _ rfl rfl b (o) (u.length) wc (i) rfl rfl HIL.out) (hS _ _ hI) ?_;go_frame;refine Rg.tg 6 13 (.int .i64 (-((k:Nat):Int) - 1)) 38 rfl rfl (Rg.yields_cell _ _ rfl rfl ⟨b,o+i,none⟩ rfl (fun W hW=>run_loadInt ((Below.cell (p:=⟨b,o+i,none⟩) hW CX.out.lt).trans CX.out.cell))) (hS _ _ hI) ?_;go_frame;refine Rg.tg 7 13 (.int .i64 (((k:Nat):Int)+1)) 39 rfl rfl (.inl ⟨rfl,fun w _=>exec_neg (r:=((k:Nat):Int)+1) _ rfl rfl (by omega) (by omega)⟩) (hS _ _ hI) ?_;go_frame;refine Rg.tg 8 13 (.int .i64 ((k:Nat):Int)) 40 rfl rfl (.inl ⟨rfl,fun w _=>exec_bin (R:=.int .i64 ((k:Nat):Int)) .sub _ _ _ rfl rfl rfl (b_sub _ (by omega) (by omega))⟩) (hS _ _ hI) ?_;go_frame
    refine Rg.tg 9 13 (.pointer (some ⟨b1,o1+k,none⟩)) 41 rfl rfl (Rg.yields_index slPerms _ _ rfl rfl b1 (o1) ((gs.map Ma.ofN).length) gc (k) rfl rfl (by rw [List.length_map]; exact HK.out)) (hS _ _ hI) ?_;go_frame;refine Rg.tg 10 13 ((.slice sa (Ma.ofN s).length sc)) 42 rfl rfl (Rg.yields_cell _ _ rfl rfl ⟨b1,o1+k,none⟩ rfl (fun W hW=>Rg.run_loadSl _ _ Tryz.underlying30 ((Below.cell (p:=⟨b1,o1+k,none⟩) hW CS.out.lt).trans CS.out.cell))) (hS _ _ hI) ?_;go_frame;refine Rg.Any.one (i:=11) (by kernel_rfl) (Rg.Any.ask (some 43) rfl rfl rfl _ _ (exec_fn1 50 _ _ rfl rfl (Dncl2 _ _)) ?_);refine (kitInv_any _ s w62 NS.out.i GS.out.1 (by rw [GS.out.2]; omega)).mono ?_;rintro e1 w63 ⟨iv,rfl,hiv,hb⟩;have hI3_0:=Rg.acc hI hb;clear hb hI;refine ⟨_,rfl,(hS _ _ hI3_0),?_⟩;go_frame;have NI:=ι (NpI.mk hiv.1);refine Rg.Any.one (i:=12) (by kernel_rfl) (Rg.Any.ask (some 44) rfl rfl rfl _ _ (exec_fn 34 _ _ _ rfl rfl rfl (Zlcl4 _ _)) ?_)
    refine (kitMul_any _ _ q2 (Ma.invN s) w63 (NQ.out.below hI3_0).i NI.out.i (fun z hz=>by rw [(Cm.gd_inv GS.out).2]; exact gd_mem GQ.out hz) (by rw [GQ.out.2]; omega)).mono ?_;rintro e1 w64 ⟨mv,rfl,hmv,hb⟩;have hI4_0:=Rg.acc hI3_0 hb;have hI4_1:=hb;clear hb hI3_0;refine ⟨_,rfl,(hS _ _ hI4_0),?_⟩;go_frame;have NM:=ι (NpI.mk hmv.1);refine Rg.Any.one (i:=13) (by kernel_rfl) (Rg.Any.run (some 5) rfl rfl rfl (Rg.xa (mv) _ rfl rfl) (hS _ _ hI4_0) ?_);go_frame;refine Rg.Any.done (by kernel_rfl) ?_ _;replace G0:=ι (G0.out.below hI4_0);replace HU0:=ι (HU0.out.below hI4_0);replace NQ:=ι (NQ.out.below hI4_0);replace CX:=ι (CX.out.below hI4_0);replace CS:=ι (CS.out.below hI4_0);replace NS:=ι (NS.out.below hI4_0);replace NI:=ι (NI.out.below hI4_1);replace KR:=ι (Rg.acc KR.out hI4_0);clear hS hI4_0 hI4_1;rw [← HLV.out] at NM;clear hmv hiv;go_upto_region 4 with (fail);refine Rg.wl ?_
    refine Rg.lm 14 (.int .i64 ((i:Nat):Int)) ?_;go_frame;refine Rg.lr 15 (exec_bin (R:=.int .i64 (((i+1):Nat):Int)) .add _ _ _ rfl rfl rfl (b_add _ (by omega) (by omega))) ?_;go_frame;refine Rg.la 6 (.int .i64 (((i+1):Nat):Int)) ?_;go_frame;go_wp2
    go_roundw
    case rel=>exact ⟨i+1,_,by go_num,HIL.out,NM,ι (Cm.gd_mul GQ.out GLX.out),HEN,KR⟩
    case measure=>simp [intOf]; have:=HIL.out; omega
end Go.Proofs.YtdnmmibchbceeaaGreat

namespace Go.Proofs.YtdnmmibchbceeaaGreat
open Go.RowKit
open Go.Proofs
open Go.Proofs.Ob
open Go.Proofs.Cm (Gd Gr IsChain ap)
def rk (x:Int):Nat:=if x<0 then 2*(-x - 1).toNat+1 else 2*(x - 1).toNat
def Lx:List Int→List Int→Prop
 | a :: u,b :: v=>rk a<rk b∨(a=b∧Lx u v)
 | _,_=>False
def SL (u v:List Int):Prop:=u.length<v.length∨(u.length=v.length∧Lx u v)
def SLe (u v:List Int):Prop:=u=v∨SL u v
theorem Lx.irr:∀ {u:List Int},¬ Lx u u
 | [],h=>h
 | a :: u,h=>h.elim (fun h=>Nat.lt_irrefl _ h) fun h=>Lx.irr (u:=u) h.2
theorem Lx.trans:∀ {u v w:List Int},Lx u v→Lx v w→Lx u w
 | [],_,_,h,_=>h.elim
 | _ :: _,[],_,h,_=>h.elim
 | _ :: _,_ :: _,[],_,h=>h.elim
 | a :: u,b :: v,c :: w,h,h'=>by
  rcases h with h | ⟨rfl,h⟩ <;> rcases h' with h' | ⟨rfl,h'⟩
  ·exact .inl (Nat.lt_trans h h')
  ·exact .inl h
  ·exact .inl h'
  ·exact .inr ⟨rfl,Lx.trans h h'⟩
theorem Lx.app:∀ {u v:List Int} (s t:List Int),Lx u v→Lx (u++s) (v++t)
 | [],_,_,_,h=>h.elim
 | _ :: _,[],_,_,h=>h.elim
 | a :: u,b :: v,s,t,h=>by
  rcases h with h | ⟨rfl,h⟩
  ·exact .inl h
  ·exact .inr ⟨rfl,Lx.app s t h⟩
theorem Lx.pre {u v:List Int} (h:Lx u v):∀ p:List Int,Lx (p++u) (p++v)
 | []=>h
 | a :: p=>.inr ⟨rfl,Lx.pre h p⟩
theorem SL.irr {u:List Int} (h:SL u u):False:=h.elim (fun h=>Nat.lt_irrefl _ h) fun h=>Lx.irr h.2
theorem SL.trans {u v w:List Int} (h:SL u v) (h':SL v w):SL u w:=by
 rcases h with h | ⟨h,g⟩ <;> rcases h' with h' | ⟨h',g'⟩
 ·exact .inl (by omega)
 ·exact .inl (by omega)
 ·exact .inl (by omega)
 ·exact .inr ⟨by omega,g.trans g'⟩
theorem SL.snoc {u v:List Int} (a b:Int) (h:SL u v):SL (u++[a]) (v++[b]):=by
 rcases h with h | ⟨h,g⟩
 ·exact .inl (by simp; omega)
 ·exact .inr ⟨by simp; omega,g.app _ _⟩
theorem SL.app {u v:List Int} (s:List Int) (h:SL u v):SL (u++s) (v++s):=by
 rcases h with h | ⟨h,g⟩
 ·exact .inl (by simp; omega)
 ·exact .inr ⟨by simp; omega,g.app _ _⟩
theorem SL.pre {u v:List Int} (p:List Int) (h:SL u v):SL (p++u) (p++v):=by
 rcases h with h | ⟨h,g⟩
 ·exact .inl (by simp; omega)
 ·exact .inr ⟨by simp; omega,g.pre p⟩
theorem SL.last {a b:Int} (p:List Int) (h:rk a<rk b):SL (p++[a]) (p++[b]):=.inr ⟨by simp,Lx.pre (show Lx [a] [b] from Or.inl h) p⟩
theorem SLe.len {u v:List Int} (h:SLe u v):u.length≤v.length:=by
 rcases h with rfl | h | h
 ·exact Nat.le_refl _
 ·omega
 ·omega
theorem SLe.trans {u v w:List Int} (h:SLe u v) (h':SLe v w):SLe u w:=by
 rcases h with rfl | h
 ·exact h'
 ·rcases h' with rfl | h'
  ·exact .inr h
  ·exact .inr (h.trans h')
theorem SLe.app {u v:List Int} (s:List Int) (h:SLe u v):SLe (u++s) (v++s):=by
 rcases h with rfl | h
 ·exact .inl rfl
 ·exact .inr (h.app s)
theorem lets_rk (n:Nat):(lets n).Pairwise (fun a b=>rk a<rk b)∧∀ a∈lets n,rk a<2*n:=by
 induction n with
 | zero=>exact ⟨List.Pairwise.nil,fun a h=>by simp [lets] at h⟩
 | succ n ih =>
  have e1:rk ((n:Int)+1)=2*n:=by unfold rk; rw [if_neg (by omega)]; omega
  have e2:rk (-(n:Int) - 1)=2*n+1:=by unfold rk; rw [if_pos (by omega)]; omega
  rw [lets_succ];refine ⟨List.pairwise_append.2 ⟨ih.1,?_,fun a ha b hb=>?_⟩,fun a ha=>?_⟩
  ·refine List.Pairwise.cons (fun b hb=>?_) (List.pairwise_singleton _ _)
   rw [List.mem_singleton] at hb; subst hb; omega
  ·have:=ih.2 a ha
   simp only [List.mem_cons,List.not_mem_nil,or_false] at hb
   rcases hb with rfl | rfl <;> omega
  ·rcases List.mem_append.1 ha with ha | ha
   ·have:=ih.2 a ha; omega
   ·simp only [List.mem_cons,List.not_mem_nil,or_false] at ha
    rcases ha with rfl | rfl <;> omega
theorem mlets_snoc (gs:List (List Nat)) (s:List Nat):mlets (gs++[s])=mlets gs++[(s,(gs.length:Int)+1),(Ma.invN s,-(gs.length:Int) - 1)]:=by
 unfold mlets;rw [moves_snoc,List.length_append,List.length_singleton,lets_succ,List.zip_append (by rw [len_moves,len_lets])];rfl
theorem mlets_snd (gs:List (List Nat)):(mlets gs).map (·.2)=lets gs.length:=by
 unfold mlets;rw [List.map_snd_zip];rw [len_moves,len_lets]; exact Nat.le_refl _
theorem mlets_rk (gs:List (List Nat)):(mlets gs).Pairwise fun a b=>rk a.2<rk b.2:=by
 have:=(lets_rk gs.length).1;rw [← mlets_snd,List.pairwise_map] at this;exact this
theorem mlets_iff:∀ (n:Nat) (gs:List (List Nat)),gs.length=n→∀ y,y∈mlets gs↔∃ (i:Nat) (s:List Nat),gs[i]?=some s∧(y=(s,(i:Int)+1)∨y=(Ma.invN s,-(i:Int) - 1))
 | 0,gs,hl,y=>by
  obtain rfl:=List.length_eq_zero_iff.1 hl;exact ⟨fun h=>by simp [mlets,moves,lets] at h,fun ⟨i,s,h,_⟩=>by simp at h⟩
 | n+1,gs,hl,y=>by
  have hne:gs≠[]:=fun e=>by rw [e] at hl; simp at hl
  obtain ⟨l,s,rfl⟩:∃ l s,gs=l++[s]:=⟨gs.dropLast,gs.getLast hne,(List.dropLast_concat_getLast hne).symm⟩
  have hl:l.length=n:=by simpa using hl
  rw [mlets_snoc,List.mem_append,mlets_iff n l hl y]
  constructor
  ·rintro (⟨i,t,h1,h2⟩ | h)
   ·have:=(List.getElem?_eq_some_iff.1 h1).1
    exact ⟨i,t,by rw [List.getElem?_append_left this]; exact h1,h2⟩
   ·refine ⟨l.length,s,by simp,?_⟩
    simpa using h
  ·rintro ⟨i,t,h1,h2⟩
   by_cases hi:i<l.length
   ·rw [List.getElem?_append_left hi] at h1
    exact .inl ⟨i,t,h1,h2⟩
   ·have h3:=(List.getElem?_eq_some_iff.1 h1).1
    simp only [List.length_append,List.length_singleton] at h3
    obtain rfl:i=l.length:=by omega
    rw [List.getElem?_concat_length] at h1;obtain rfl:=Option.some.inj h1;refine .inr ?_
    simpa using h2
theorem mlets_lt {gs:List (List Nat)} {y:List Nat × Int} (h:y∈mlets gs):y.2≠0∧y.2≤(gs.length:Int)∧-(gs.length:Int)≤y.2∧ltV gs y.2=y.1:=by
 obtain ⟨i,s,h1,h2⟩:=(mlets_iff _ gs rfl y).1 h;obtain ⟨hi,rfl⟩:=List.getElem?_eq_some_iff.1 h1
 rcases h2 with rfl | rfl
 ·exact ⟨by show (i:Int)+1≠0; omega,by show (i:Int)+1≤_; omega,by show _≤(i:Int)+1; omega,ltV_pos hi⟩
 ·exact ⟨by show -(i:Int) - 1≠0; omega,by show -(i:Int) - 1≤_; omega,by show _≤-(i:Int) - 1; omega,ltV_neg hi⟩
theorem lt_mlets {gs:List (List Nat)} {a:Int} (h:a≠0∧a≤(gs.length:Int)∧-(gs.length:Int)≤a):(ltV gs a,a)∈mlets gs:=by
 rw [mlets_iff _ gs rfl]
 by_cases h0:a<0
 ·obtain ⟨k,rfl⟩:∃ k:Nat,a = -((k:Nat):Int) - 1:=⟨(-a - 1).toNat,by omega⟩
  have hk:k<gs.length:=by omega
  exact ⟨k,gs[k],List.getElem?_eq_getElem hk,.inr (by rw [ltV_neg hk])⟩
 ·obtain ⟨k,rfl⟩:∃ k:Nat,a=((k:Nat):Int)+1:=⟨(a - 1).toNat,by omega⟩
  have hk:k<gs.length:=by omega
  exact ⟨k,gs[k],List.getElem?_eq_getElem hk,.inl (by rw [ltV_pos hk])⟩
def Zp (st:BSt):List (List Nat × List Int):=st.1.zip st.2
theorem Zp.step {x:List Nat} {wd:List Int} {st:BSt} (hl:st.2.length=st.1.length) (y:List Nat × Int):(bfStep x wd st y).2.length=(bfStep x wd st y).1.length∧((Ma.mulN x y.1∈st.1∧bfStep x wd st y=st)∨(Ma.mulN x y.1∉st.1∧Zp (bfStep x wd st y)=Zp st++[(Ma.mulN x y.1,wd++[y.2])])):=by
 unfold bfStep
 split
 ·rename_i h; exact ⟨hl,.inl ⟨h,rfl⟩⟩
 ·rename_i h
  refine ⟨by simp [hl],.inr ⟨h,?_⟩⟩;unfold Zp;rw [List.zip_append hl.symm]; rfl
theorem Zp.mem {st:BSt} (hl:st.2.length=st.1.length) {x:List Nat} (h:x∈st.1):∃ u,(x,u)∈Zp st:=by
 obtain ⟨i,hi,rfl⟩:=List.getElem_of_mem h;refine ⟨st.2[i]'(by omega),?_⟩;unfold Zp;rw [List.mem_iff_getElem];exact ⟨i,by simp; omega,by simp⟩
def WI (N:Nat) (gs:List (List Nat)) (st:BSt):Prop:=∀ q∈Zp st,okW gs.length q.2∧evN N gs q.2=q.1
def WAsc (st:BSt):Prop:=(Zp st).Pairwise fun a b=>SL a.2 b.2
theorem ev_snoc (N:Nat) (gs:List (List Nat)) (u:List Int) (a:Int):evN N gs (u++[a])=Ma.mulN (evN N gs u) (ltV gs a):=by
 unfold evN; rw [List.foldl_append]; rfl
theorem okW.app {n:Nat} {u v:List Int} (h:okW n u) (h':okW n v):okW n (u++v):=fun x hx=>(List.mem_append.1 hx).elim (h x) (h' x)
theorem okW.one {n:Nat} {a:Int} (h:a≠0∧a≤(n:Int)∧-(n:Int)≤a):okW n [a]:=fun x hx=>by rw [List.mem_singleton] at hx; rw [hx]; exact h
theorem row_words {N:Nat} {gs:List (List Nat)} {x:List Nat} {wd:List Int} (ho:okW gs.length wd) (he:evN N gs wd=x) :
  ∀ (l:List (List Nat × Int)) (st:BSt),(∀ y∈l,y∈mlets gs)→l.Pairwise (fun a b=>rk a.2<rk b.2)→st.2.length=st.1.length→WI N gs st→WAsc st→(∀ q∈Zp st,∀ y∈l,SL q.2 (wd++[y.2])) →
   (l.foldl (bfStep x wd) st).2.length=(l.foldl (bfStep x wd) st).1.length∧WI N gs (l.foldl (bfStep x wd) st)∧WAsc (l.foldl (bfStep x wd) st)∧(∀ q∈Zp st,q∈Zp (l.foldl (bfStep x wd) st)) ∧
   (∀ q∈Zp (l.foldl (bfStep x wd) st),q∈Zp st∨∃ b,q.2=wd++[b])∧(∀ y∈l,∃ u,(Ma.mulN x y.1,u)∈Zp (l.foldl (bfStep x wd) st)∧SLe u (wd++[y.2]))
 | [],st,_,_,hl,h1,h2,_=>⟨hl,h1,h2,fun _=>id,fun _ h=>.inl h,fun _ h=>absurd h (List.not_mem_nil)⟩
 | y :: l,st,hy,hp,hl,h1,h2,h3=>by
  obtain ⟨hp1,hp2⟩:=List.pairwise_cons.1 hp;have hym:=mlets_lt (hy y (List.mem_cons_self ..));obtain ⟨hl',hs⟩:=Zp.step (x:=x) (wd:=wd) hl y
  have key:WI N gs (bfStep x wd st y)∧WAsc (bfStep x wd st y)∧(∀ q∈Zp (bfStep x wd st y),∀ z∈l,SL q.2 (wd++[z.2]))∧(∀ q∈Zp st,q∈Zp (bfStep x wd st y))∧(∀ q∈Zp (bfStep x wd st y),q∈Zp st∨∃ b,q.2=wd++[b])∧∃ u,(Ma.mulN x y.1,u)∈Zp (bfStep x wd st y)∧SLe u (wd++[y.2]):=by
   rcases hs with ⟨hm,e⟩ | ⟨hm,e⟩
   ·rw [e]
    obtain ⟨u,hu⟩:=Zp.mem hl hm;exact ⟨h1,h2,fun q hq z hz=>h3 q hq z (List.mem_cons_of_mem _ hz),fun _=>id,fun _ h=>.inl h,u,hu,.inr (h3 _ hu y (List.mem_cons_self ..))⟩
   ·unfold WI WAsc
    rw [e];refine ⟨fun q hq=>?_,List.pairwise_append.2 ⟨h2,List.pairwise_singleton _ _,fun a ha b hb=>?_⟩,fun q hq z hz=>?_,fun q hq=>List.mem_append_left _ hq,fun q hq=>?_,wd++[y.2],List.mem_append_right _ (List.mem_singleton.2 rfl),.inl rfl⟩
    ·rcases List.mem_append.1 hq with hq | hq
     ·exact h1 q hq
     ·rw [List.mem_singleton] at hq; subst hq
      refine ⟨ho.app (okW.one ⟨hym.1,hym.2.1,hym.2.2.1⟩),?_⟩;show evN N gs (wd++[y.2])=_;rw [ev_snoc,he,hym.2.2.2]
    ·rw [List.mem_singleton] at hb; subst hb
     exact h3 a ha y (List.mem_cons_self ..)
    ·rcases List.mem_append.1 hq with hq | hq
     ·exact h3 q hq z (List.mem_cons_of_mem _ hz)
     ·rw [List.mem_singleton] at hq; subst hq
      exact SL.last _ (hp1 z hz)
    ·rcases List.mem_append.1 hq with hq | hq
     ·exact .inl hq
     ·rw [List.mem_singleton] at hq; subst hq
      exact .inr ⟨_,rfl⟩
  obtain ⟨k1,k2,k3,k4,k5,u,k6,k7⟩:=key;obtain ⟨r0,r1,r2,r3,r4,r5⟩:=row_words ho he l (bfStep x wd st y) (fun z hz=>hy z (List.mem_cons_of_mem _ hz)) hp2 hl' k1 k2 k3;refine ⟨r0,r1,r2,fun q hq=>r3 q (k4 q hq),fun q hq=>?_,fun z hz=>?_⟩
  ·rcases r4 q hq with h | h
   ·exact k5 q h
   ·exact .inr h
  ·rcases List.mem_cons.1 hz with rfl | hz
   ·exact ⟨u,r3 _ k6,k7⟩
   ·exact r5 z hz
theorem bfs_words {N:Nat} {gs:List (List Nat)} (hg:∀ s∈gs,Gd N s):∀ i:Nat,
  WI N gs (bfs (mlets gs) N i)∧WAsc (bfs (mlets gs) N i)∧(∀ p,(Zp (bfs (mlets gs) N i))[i]?=some p→∀ q∈Zp (bfs (mlets gs) N i),∀ a,SL q.2 (p.2++[a])) ∧
  (∀ j p,j<i→(Zp (bfs (mlets gs) N i))[j]?=some p→∀ y∈mlets gs,∃ u,(Ma.mulN p.1 y.1,u)∈Zp (bfs (mlets gs) N i)∧SLe u (p.2++[y.2]))
 | 0=>⟨fun q hq=>by
   have hq:q∈[(Ma.oneN N,([]:List Int))]:=hq;rw [List.mem_singleton] at hq; subst hq
   exact ⟨fun x hx=>absurd hx (List.not_mem_nil),rfl⟩,List.pairwise_singleton _ _,fun p hp q hq a=>by
   have hq:q∈[(Ma.oneN N,([]:List Int))]:=hq;rw [List.mem_singleton] at hq; subst hq
   exact .inl (by simp),fun j p h=>absurd h (Nat.not_lt_zero _)⟩
 | i+1=>by
  obtain ⟨h1,h2,h3,h4⟩:=bfs_words hg i;have hb:=bfs_BI (N:=N) (mlets_gd hg) i
  by_cases h:i<(bfs (mlets gs) N i).1.length
  ·have e3:bfs (mlets gs) N (i+1)=bfRow (mlets gs) (bfs (mlets gs) N i) i:=by
    show (if i<(bfs (mlets gs) N i).1.length then bfRow (mlets gs) (bfs (mlets gs) N i) i else bfs (mlets gs) N i)=_;rw [if_pos h]
   have h':i<(bfs (mlets gs) N i).2.length:=by rw [hb.ln]; exact h
   obtain ⟨p,hp⟩:∃ p,(Zp (bfs (mlets gs) N i))[i]?=some p:=⟨((bfs (mlets gs) N i).1[i],(bfs (mlets gs) N i).2[i]),by unfold Zp; rw [List.getElem?_zip_eq_some]; exact ⟨List.getElem?_eq_getElem h,List.getElem?_eq_getElem h'⟩⟩;have hpm:p∈Zp (bfs (mlets gs) N i):=List.mem_of_getElem? hp;have hp2:=List.getElem?_zip_eq_some.1 hp;obtain ⟨ho,he⟩:=h1 p hpm
   have e1:(bfs (mlets gs) N i).1.getD i []=p.1:=by rw [List.getD_eq_getElem?_getD,hp2.1]; rfl
   have e2:(bfs (mlets gs) N i).2.getD i []=p.2:=by rw [List.getD_eq_getElem?_getD,hp2.2]; rfl
   obtain ⟨r0,r1,r2,r3,r4,r5⟩:=row_words (x:=p.1) ho he (mlets gs) _ (fun _=>id) (mlets_rk gs) hb.ln h1 h2 fun q hq y _=>h3 p hp q hq y.2
   have ext:Zp (bfs (mlets gs) N i) <+: Zp (bfs (mlets gs) N (i+1)):=by
    obtain ⟨⟨s,hs⟩,⟨t,ht⟩⟩:=bfs_step_ext (mlets gs) N i;unfold Zp;rw [← hs,← ht,List.zip_append hb.ln.symm];exact ⟨_,rfl⟩
   have hI:i<(Zp (bfs (mlets gs) N i)).length:=(List.getElem?_eq_some_iff.1 hp).1
   have old:∀ j q,j≤i→(Zp (bfs (mlets gs) N (i+1)))[j]?=some q→(Zp (bfs (mlets gs) N i))[j]?=some q:=fun j q hj hq=>by
    obtain ⟨t,ht⟩:=ext;rw [← ht,List.getElem?_append_left (by omega)] at hq;exact hq
   have e4:bfRow (mlets gs) (bfs (mlets gs) N i) i=(mlets gs).foldl (bfStep p.1 p.2) (bfs (mlets gs) N i):=by unfold bfRow; rw [e1,e2]
   rw [← e4,← e3] at r0 r1 r2 r3 r4 r5;refine ⟨r1,r2,fun p' hp' q hq a=>?_,fun j q hj hq y hy=>?_⟩
   ·have hlt:SL p.2 p'.2:=by
     have hi1:=(List.getElem?_eq_some_iff.1 hp').1;have:=List.pairwise_iff_getElem.1 r2 i (i+1) (by omega) hi1 (by omega);rw [(List.getElem?_eq_some_iff.1 hp').2] at this
     have e5:(Zp (bfs (mlets gs) N (i+1)))[i]'(by omega)=p:=by
      have e6:=old i _ (Nat.le_refl _) (List.getElem?_eq_getElem (by omega:i<(Zp (bfs (mlets gs) N (i+1))).length));rw [hp] at e6;exact (Option.some.inj e6).symm
     rw [e5] at this;exact this
    rcases r4 q hq with hq | ⟨b,hq⟩
    ·exact (h3 p hp q hq a).trans (hlt.snoc a a)
    ·rw [hq]; exact hlt.snoc b a
   ·have hq2:=old j q (by omega) hq
    by_cases ej:j=i
    ·subst ej
     rw [hp] at hq2;obtain rfl:=Option.some.inj hq2;exact r5 y hy
    ·obtain ⟨u,hu,hle⟩:=h4 j q (by omega) hq2 y hy
     exact ⟨u,r3 _ hu,hle⟩
  ·have e3:bfs (mlets gs) N (i+1)=bfs (mlets gs) N i:=by
    show (if i<(bfs (mlets gs) N i).1.length then bfRow (mlets gs) (bfs (mlets gs) N i) i else bfs (mlets gs) N i)=_;rw [if_neg h]
   have hz:(Zp (bfs (mlets gs) N i)).length≤i:=by unfold Zp; simp; omega
   rw [e3];refine ⟨h1,h2,fun p hp=>?_,fun j p hj hp=>?_⟩
   ·have:=(List.getElem?_eq_some_iff.1 hp).1; omega
   ·have:=(List.getElem?_eq_some_iff.1 hp).1
    exact h4 j p (by omega) hp
structure WdT (N:Nat) (gs:List (List Nat)) (st:BSt):Prop where
 gd:∀ s∈gs,Gd N s
 bi:BI N st
 inn:∀ x∈st.1,okW gs.length (wdOf st x)∧evN N gs (wdOf st x)=x
 one:Ma.oneN N∈st.1∧wdOf st (Ma.oneN N)=[]
 next:∀ x∈st.1,∀ y∈mlets gs,Ma.mulN x y.1∈st.1∧SLe (wdOf st (Ma.mulN x y.1)) (wdOf st x++[y.2])
theorem wd_at {N:Nat} {st:BSt} (hb:BI N st) {x:List Nat} {u:List Int} (h:(x,u)∈Zp st):x∈st.1∧wdOf st x=u:=by
 obtain ⟨i,hi⟩:=List.mem_iff_getElem?.1 h;obtain ⟨h1,h2⟩:=List.getElem?_zip_eq_some.1 hi;obtain ⟨hi1,rfl⟩:=List.getElem?_eq_some_iff.1 h1;refine ⟨List.getElem_mem _,?_⟩;unfold wdOf;rw [hb.nd.idxOf_getElem,List.getD_eq_getElem?_getD,h2]; rfl
theorem at_wd {N:Nat} {st:BSt} (hb:BI N st) {x:List Nat} (h:x∈st.1):(x,wdOf st x)∈Zp st:=by
 obtain ⟨u,hu⟩:=Zp.mem hb.ln h;have:=(wd_at hb hu).2;rw [this]; exact hu
theorem BfE.words {N:Nat} {gs:List (List Nat)} (hg:∀ s∈gs,Gd N s) {st:BSt} (h:BfE (mlets gs) N st):WdT N gs st:=by
 obtain ⟨i,rfl,hi⟩:=h;have hb:=bfs_BI (N:=N) (mlets_gd hg) i;obtain ⟨h1,h2,-,h4⟩:=bfs_words hg i;refine ⟨hg,hb,fun x hx=>h1 _ (at_wd hb hx),?_,fun x hx y hy=>?_⟩
 ·refine wd_at hb ?_
  have:∀ j,(Ma.oneN N,([]:List Int))∈Zp (bfs (mlets gs) N j):=fun j=>by
   induction j with
   | zero=>exact List.mem_singleton.2 rfl
   | succ j ih =>
    obtain ⟨⟨s,hs⟩,⟨t,ht⟩⟩:=bfs_step_ext (mlets gs) N j;have hbj:=bfs_BI (N:=N) (mlets_gd hg) j;unfold Zp at ih ⊢;rw [← hs,← ht,List.zip_append hbj.ln.symm];exact List.mem_append_left _ ih
  exact this i
 ·obtain ⟨j,hj⟩:=List.mem_iff_getElem?.1 (at_wd hb hx)
  have hjl:j<i:=by
   have:=(List.getElem?_eq_some_iff.1 (List.getElem?_zip_eq_some.1 hj).1).1;omega
  obtain ⟨u,hu,hle⟩:=h4 j _ hjl hj y hy;obtain ⟨q1,q2⟩:=wd_at hb hu;exact ⟨q1,by rw [q2]; exact hle⟩
theorem WdT.least {N:Nat} {gs:List (List Nat)} {st:BSt} (h:WdT N gs st) {v:List Int} (hv:okW gs.length v):evN N gs v∈st.1∧SLe (wdOf st (evN N gs v)) v:=by
 obtain ⟨n,hn⟩:∃ n,v.length=n:=⟨_,rfl⟩
 induction n generalizing v with
 | zero =>
  obtain rfl:=List.length_eq_zero_iff.1 hn;exact ⟨h.one.1,.inl h.one.2⟩
 | succ n ih =>
  have hne:v≠[]:=fun e=>by rw [e] at hn; simp at hn
  obtain ⟨u,a,rfl⟩:∃ l s,v=l++[s]:=⟨v.dropLast,v.getLast hne,(List.dropLast_concat_getLast hne).symm⟩
  have hu:u.length=n:=by simpa using hn
  obtain ⟨i1,i2⟩:=ih (fun x hx=>hv x (List.mem_append_left _ hx)) hu;have ha:=hv a (List.mem_append_right _ (List.mem_singleton.2 rfl));obtain ⟨j1,j2⟩:=h.next _ i1 _ (lt_mlets ha);rw [ev_snoc];exact ⟨j1,j2.trans (i2.app [a])⟩
theorem evf_mul {N:Nat} {gs:List (List Nat)} (hg:∀ s∈gs,Gd N s):∀ {v:List Int} {p:List Nat},okW gs.length v→Gd N p→v.foldl (fun p x=>Ma.mulN p (ltV gs x)) p=Ma.mulN p (evN N gs v):=by
 intro v;obtain ⟨n,hn⟩:∃ n,v.length=n:=⟨_,rfl⟩
 induction n generalizing v with
 | zero =>
  intro p _ hp;obtain rfl:=List.length_eq_zero_iff.1 hn;exact (Cm.mul_one hp).symm
 | succ n ih =>
  intro p hv hp
  have hne:v≠[]:=fun e=>by rw [e] at hn; simp at hn
  obtain ⟨u,a,rfl⟩:∃ l s,v=l++[s]:=⟨v.dropLast,v.getLast hne,(List.dropLast_concat_getLast hne).symm⟩
  have hu:u.length=n:=by simpa using hn
  have ho:okW gs.length u:=fun x hx=>hv x (List.mem_append_left _ hx);have ha:=hv a (List.mem_append_right _ (List.mem_singleton.2 rfl));rw [ev_snoc,List.foldl_append,ih hu ho hp];exact Cm.mul_assoc hp (evf_gd hg ho (Cm.gd_one N))
theorem ev_gd {N:Nat} {gs:List (List Nat)} (hg:∀ s∈gs,Gd N s) {v:List Int} (hv:okW gs.length v):Gd N (evN N gs v):=evf_gd hg hv (Cm.gd_one N)
theorem ev_app {N:Nat} {gs:List (List Nat)} (hg:∀ s∈gs,Gd N s) {u v:List Int} (hu:okW gs.length u) (hv:okW gs.length v):evN N gs (u++v)=Ma.mulN (evN N gs u) (evN N gs v):=by
 show (u++v).foldl _ _=_;rw [List.foldl_append];exact evf_mul hg hv (ev_gd hg hu)
theorem WdT.piece {N:Nat} {gs:List (List Nat)} {st:BSt} (h:WdT N gs st) {x:List Nat} (hx:x∈st.1) {p m s:List Int} (e:wdOf st x=p++m++s):evN N gs m∈st.1∧wdOf st (evN N gs m)=m:=by
 obtain ⟨ho,he⟩:=h.inn x hx;rw [e] at ho he;have hp:okW gs.length p:=fun z hz=>ho z (by simp [hz]);have hm:okW gs.length m:=fun z hz=>ho z (by simp [hz]);have hs:okW gs.length s:=fun z hz=>ho z (by simp [hz]);obtain ⟨q1,q2⟩:=h.least hm;refine ⟨q1,?_⟩
 rcases q2 with q2 | q2
 ·exact q2
 ·exfalso
  obtain ⟨r1,r2⟩:=h.inn _ q1
  have e2:evN N gs (p++wdOf st (evN N gs m)++s)=x:=by
   rw [← he,ev_app h.gd (hp.app r1) hs,ev_app h.gd hp r1,r2,ev_app h.gd (hp.app hm) hs,ev_app h.gd hp hm]
  obtain ⟨_,q3⟩:=h.least ((hp.app r1).app hs);rw [e2,e] at q3;have q4:SL (p++wdOf st (evN N gs m)++s) (p++m++s):=(q2.pre p).app s
  rcases q3 with q3 | q3
  ·rw [← q3] at q4; exact q4.irr
  ·exact (q3.trans q4).irr
theorem WdT.step {N:Nat} {gs:List (List Nat)} {st:BSt} (h:WdT N gs st) {x:List Nat} (hx:x∈st.1) {j:Nat} (hj:j<gs.length):Ma.mulN x gs[j]∈st.1∧(wdOf st (Ma.mulN x gs[j])).length≤(wdOf st x).length+1∧(wdOf st x).length≤(wdOf st (Ma.mulN x gs[j])).length+1:=by
 have m1:(gs[j],(j:Int)+1)∈mlets gs:=(mlets_iff _ gs rfl _).2 ⟨j,gs[j],List.getElem?_eq_getElem hj,.inl rfl⟩;have m2:(Ma.invN gs[j],-(j:Int) - 1)∈mlets gs:=(mlets_iff _ gs rfl _).2 ⟨j,gs[j],List.getElem?_eq_getElem hj,.inr rfl⟩;obtain ⟨a1,a2⟩:=h.next x hx _ m1;obtain ⟨b1,b2⟩:=h.next _ a1 _ m2;have gx:=h.bi.gd x hx;have gj:=h.gd _ (List.getElem_mem hj)
 have e:Ma.mulN (Ma.mulN x gs[j]) (Ma.invN gs[j])=x:=by rw [Cm.mul_assoc gx gj,Cm.mul_inv gj,Cm.mul_one gx]
 rw [e] at b2;have c1:=a2.len;have c2:=b2.len;simp at c1 c2;exact ⟨a1,c1,c2⟩
end Go.Proofs.YtdnmmibchbceeaaGreat

namespace Go.Proofs.YtdnmmibchbceeaaGreat
open Go.RowKit
open Go.Proofs
open Go.Proofs.Ob
open Go.Proofs.Cm (Gd Gr IsChain)
attribute [local irreducible] Go.Calls Go.wpList
theorem Drcl0 (args:Array Value) (w:World):(callFunc 6 args).run Tryz.prog w=.ok (.enter 6 args) w:=by kernel_rfl
theorem Drcl1 (args:Array Value) (w:World):(callFunc 29 args).run Tryz.prog w=.ok (.enter 29 args) w:=by kernel_rfl
theorem Drcl4 (args:Array Value) (w:World):(callFunc 31 args).run Tryz.prog w=.ok (.enter 31 args) w:=by kernel_rfl
theorem Drcl5 (args:Array Value) (w:World):(callFunc 32 args).run Tryz.prog w=.ok (.enter 32 args) w:=by kernel_rfl
theorem run_cutW (w:World) (a:Option Addr) {n c lo m:Nat} (h:lo+m≤n) (h3:n≤c):(Instr.sliceAt 26 (.slice a n c) (some (.int .i64 ((lo:Nat):Int))) (some (.int .i64 ((lo+m:Nat):Int))) none).run Tryz.prog w=.ok (.slice (if c=lo then a else a.map (·.add lo)) m (c - lo)) w:=by
 have h1:lo+m≤c:=by omega
 have h2:((lo:Nat):Int)≤((lo:Nat):Int)+((m:Nat):Int):=by omega
 have h4:((lo:Nat):Int)+((m:Nat):Int)≤((c:Nat):Int):=by omega
 have h5:(0:Int)≤((lo:Nat):Int)+((m:Nat):Int):=by omega
 have h6:(((lo:Nat):Int)+((m:Nat):Int)).toNat - lo=m:=by omega
 simp [Instr.sliceAt,Instr.slice,run_underlying Tryz.underlying26,Instr.sliceBounds,Instr.sliceBound,asIntOf,h1,h2,h4,h5,h6]
theorem exec_cutW {o:Oper} {a:Act} {w:World} {v r y' z':Value} (x y z:Operand) (ho:o.op=.slice 26 x (some y) (some z) none) (hx:a.eval x=v) (hy:a.eval y=y') (hz:a.eval z=z') (hr:(Instr.sliceAt 26 v (some y') (some z') none).run Tryz.prog w=.ok r w) :
  (execOp a.eval o).run Tryz.prog w=.ok (.value r) w:=by
 unfold execOp;simp only [ho,hx,hy,hz,Sem.run_bind,Sem.run_pure,Option.map]
 first | (rw [hr]; rfl) | (erw [hr]; rfl) | simp [hr]
theorem cut_ints {W:World} {a:Option Addr} {n c lo m:Nat} {u:List Int} (h:Rg.Ints W (.slice a n c) u) (h1:lo+m≤u.length):Rg.Ints W (.slice (if c=lo then a else a.map (·.add lo)) m (c - lo)) ((u.drop lo).take m):=by
 obtain ⟨a',cap,e,q1,q2,q3,q4⟩:=h;simp only [Value.slice.injEq,List.length_map] at e;obtain ⟨rfl,rfl,rfl⟩:=e;rw [List.length_map] at q1 q3
 have hl:(((u.drop lo).take m).map (Value.int .i64)).length=m:=by simp; omega
 refine ⟨_,_,by rw [hl],by rw [hl]; omega,by omega,by rw [hl]; omega,fun hp=>?_⟩;rw [hl] at hp;obtain ⟨b,o,rfl,hb,hc⟩:=q4 (by rw [List.length_map]; omega);refine ⟨b,o+lo,by rw [if_neg (by omega)]; simp [Addr.add],hb,fun i hi=>?_⟩;rw [hl] at hi;have:=hc (lo+i) (by rw [List.length_map]; omega);rw [← Nat.add_assoc] at this;rw [this];simp
theorem cut_word {a:Option Addr} {n c lo m:Nat} {u:List Int} {W0:World} (h:Rg.Ints W0 (.slice a n c) u) (h1:lo+m≤u.length):∃ ca cc,(∀ w,(Instr.sliceAt 26 (.slice a n c) (some (.int .i64 ((lo:Nat):Int))) (some (.int .i64 ((lo+m:Nat):Int))) none).run Tryz.prog w=.ok (.slice ca m cc) w)∧∀ W,Rg.Ints W (.slice a n c) u→Rg.Ints W (.slice ca m cc) ((u.drop lo).take m):=by
 obtain ⟨a',cap,e,q1,q2,q3,q4⟩:=h;simp only [Value.slice.injEq,List.length_map] at e;obtain ⟨rfl,rfl,rfl⟩:=e;rw [List.length_map] at q1;exact ⟨_,_,fun w=>run_cutW w _ h1 q1,fun W hW=>cut_ints hW h1⟩
theorem cut_app (u:List Int) (lo m:Nat):u=u.take lo++(u.drop lo).take m++u.drop (lo+m):=by
 rw [List.append_assoc,← List.drop_drop,List.take_append_drop,List.take_append_drop]
theorem few720 {N:Nat} {gs:List (List Nat)} (hN:N≤6) (hg:∀ s∈gs,Gd N s) {st:BSt} (h:BfE (mlets gs) N st) {O:List (List Nat)} {R:List (List (List Nat))} (hc:IsChain N (Gr N (·∈gs)) O R):st.1.length≤720:=by
 obtain ⟨i,rfl,_⟩:=h;have h1:=bfs_few hg hc i;have h7:=prodK_720 (Cm.Gr.isG hg) hc (by omega) (Nat.le_refl N);rw [szD_len hc] at h7;omega
theorem rgC_zero {N:Nat} {gs:List (List Nat)} {x:List Nat} (h1:1≤N) (hc:Ma.gchk ((N:Nat):Int) (gs.map Ma.ofN)=0) (hN:N≤64) (gx:Gd N x):rgC ((N:Nat):Int) (gs.map Ma.ofN) (Ma.ofN x)=0:=by
 have h2:(Ma.ofN x).length=N:=by rw [Ma.len_ofN,gx.2]
 have h3:Ma.pchk (Ma.ofN x)=0:=Ma.pchk_ok (by omega) (by omega) (Ma.okN_ofN gx.1);unfold rgC;simp [hc,h3,h2]
theorem wds_known {N:Nat} {gs:List (List Nat)} (hN:N≤6) (hr:Ma.gchk ((N:Nat):Int) (gs.map Ma.ofN)=0) {l:List (List Int)} {c:Int} (h:WdV ((N:Nat):Int) (gs.map Ma.ofN) l c) :
  c=0∧∃ (st:BSt) (S:List (List Nat)),BfE (mlets gs) N st∧S.Perm st.1∧S.length≤720∧l=S.map (wdOf st):=by
 rcases h with ⟨h,_⟩ | ⟨_,N',gs',O,R,e1,e2,hN1,hgl,hgd,hch,⟨h2,_⟩ | ⟨h2,hc,st,S,hbe,hbi,hp,hpw,h3⟩⟩
 ·exact absurd hr h
 ·exfalso
  have h7:=prodK_720 (Cm.Gr.isG hgd) hch (by omega) (Nat.le_refl N');rw [szD_len hch] at h7;omega
 ·obtain rfl:N=N':=by omega
  have e4:=map_ofN_inj e2;subst e4;exact ⟨hc,st,S,hbe,hp,by rw [hp.length_eq]; exact few720 hN hgd hbe hch,h3⟩
theorem FactorSegments_any (v0:Value) (l0:List Int) (a1 a2 a3:Int) (w:World) (h0:Rg.IntsB maxLen w v0 l0) :
  Calls Tryz.prog 8 #[v0,.int .i64 a1,.int .i64 a2,.int .i64 a3] w fun e w'=>e=.returned (.bool true)∧Below w.heap.size w w':=by
 obtain ⟨a0,c0,rfl,-⟩:=h0.shape;have HL0:=ι (show IB w (.slice a0 l0.length c0) l0 from ⟨h0⟩);clear h0;have K:=ι (Below.refl w.heap.size w)
 go_enter Tryz.func8,Tryz.ntmps8
 go_upto_region 0 with (fail);refine Rg.wl ?_;refine Rg.la 8 (.bool false) ?_;go_frame;go_upto_region 1 with (fail);refine Rg.wl ?_;refine Rg.lk 15 (exec_fn0 6 _ rfl (Drcl0 _ _)) ?_;refine (FactorKnown_any w).mono ?_;rintro e1 w1 ⟨rfl,hb⟩;refine ⟨_,rfl,?_⟩;go_frame;replace HL0:=ι (HL0.out.below hb);replace K:=ι (Rg.acc K.out hb);clear hb;refine Rg.la 9 (.bool true) ?_;go_frame;go_upto_region 2 with (fail);refine Rg.wl ?_;refine Rg.lm 16 (.slice a0 l0.length c0) ?_;go_frame;refine Rg.lk 17 (exec_fn 29 _ _ _ rfl rfl rfl (Drcl1 _ _)) ?_;refine (GroupOf_any _ _ 5 w1 HL0.out.i (by decide) (by decide)).mono ?_;rintro e1 w2 ⟨d,gv,gs,rfl,hd1,hd2,hgl,hgs,hgr,hb⟩;obtain ⟨ga,gc,rfl,-⟩:=hgr.shape;have HD:=ι (show 1≤d∧d≤5 from ⟨hd1,hd2⟩);have HGS:=ι hgs;have HGL:=ι hgl;have HCK:=ι (gchk_good (gs:=gs) hd1 (by omega) (by omega) hgs);clear hgs hgl;refine ⟨_,rfl,?_⟩
 go_frame;replace HL0:=ι (HL0.out.below hb);replace K:=ι (Rg.acc K.out hb);clear hb;have HG:=ι hgr;obtain ⟨W2,hst,hga,hb⟩:=GI.fresh (d:=((d:Nat):Int)) HG.out;refine Rg.lr 10 (exec_allocG rfl) ?_;go_frame;refine Rg.list_skip none rfl rfl (Rg.exec_store _ _ _ rfl _ rfl _ rfl hst) ?_;go_frame;clear hst;clear hgr;replace HL0:=ι (HL0.out.below hb);replace HG:=ι (HG.out.below hb);replace K:=ι (Rg.acc K.out hb);clear hb;have G6:=ι hga;clear hga;have hd5:1≤d∧d≤5:=HD.out;clear HL0;go_upto_region 3 with (fail);refine Rg.wl ?_;refine Rg.lr 19 (Rg.exec_load (v:=.agg #[.int .i64 ((d:Nat):Int),.slice ga (gs.map Ma.ofN).length gc]) _ _ rfl ⟨w2.heap.size,0,none⟩ rfl (run_loadG G6.out.c0 G6.out.c1)) ?_;go_frame;refine Rg.lk 20 (exec_fn1 18 _ _ rfl rfl (Bncl3 _ _)) ?_;refine (fcWords_any _ ((d:Nat):Int) (gs.map Ma.ofN) W2 HG.out (by omega)).mono ?_;rintro e1 w3 ⟨wv,wl0,wc0,rfl,hwd,hwr,hb⟩
 refine ⟨_,rfl,?_⟩;go_frame;replace HG:=ι (HG.out.below hb);replace G6:=ι (G6.out.below hb);replace K:=ι (Rg.acc K.out hb);clear hb;have WR:=ι (RsO.mk hwr);refine Rg.lm 18 (.tuple #[wv,.int .i64 wc0]) ?_;go_frame;refine Rg.lr 21 (exec_extract (v:=wv) _ _ rfl rfl rfl) ?_;go_frame;refine Rg.lr 22 (exec_extract (v:=.int .i64 wc0) _ _ rfl rfl rfl) ?_;go_frame;refine Rg.la 11 (wv) ?_;go_frame;refine Rg.la 12 (.int .i64 wc0) ?_;go_frame;obtain ⟨hc0,st,A,hbe,hpm,hal,hl0⟩:=wds_known (by omega) HCK.out hwd;subst hc0 hl0;obtain ⟨wa,wc,hsh,-⟩:=WR.out.r.shape;rw [List.length_map] at hsh;subst hsh;have HWT:=ι (hbe.words HGS.out);have HPM:=ι hpm
 have hap:0<A.length:=by rw [hpm.length_eq]; exact List.length_pos_of_mem HWT.out.one.1
 have HBE:=ι hbe;clear hpm hwd hwr hbe;have hpr:=pickV_range (x:=a1) (show (0:Int)<((A.length:Nat):Int) by omega);obtain ⟨k,hk⟩:∃ k:Nat,Hid (pickV a1 ((A.length:Nat):Int)=((k:Nat):Int)):=⟨(pickV a1 ((A.length:Nat):Int)).toNat,ι (by omega)⟩;have HKP:=hk;rw [hk.out] at hpr;clear hk
 have hkl:k<A.length:=by omega
 have HKL:=ι hkl;clear hpr;obtain ⟨x,hx⟩:∃ x,Hid (A[k]'hkl=x):=⟨_,ι rfl⟩;have HXS:=ι (show x∈st.1 from HPM.out.mem_iff.1 (hx.out▸List.getElem_mem hkl));obtain ⟨u,hu⟩:∃ u,Hid (wdOf st x=u):=⟨_,ι rfl⟩;obtain ⟨wb,wo,ua,uc,e1,q1,q2,q3⟩:=rows_get WR.out.r (i:=k) (by rw [List.length_map]; exact hkl);subst e1
 have e5:(A.map (wdOf st))[k]'(by rw [List.length_map]; exact hkl)=u:=by rw [List.getElem_map,hx.out,hu.out]
 rw [e5] at q2 q3;have CU:=ι (CL.mk q2 q1);have NU:=ι (NpI.mk q3);clear q1 q2 q3 e5;have HOK:=ι (show okW gs.length u∧evN d gs u=x from hu.out▸HWT.out.inn x HXS.out)
 have HUL:=ι (show u.length≤720 by
  have h1:=HWT.out.bi.wl _ (List.of_mem_zip (at_wd HWT.out.bi HXS.out)).2;rw [hu.out,← HPM.out.length_eq] at h1
  omega)
 have hul:u.length≤720:=HUL.out;have hpr:=pickV_range (x:=a2) (show (0:Int)<((u.length+1:Nat):Int) by omega);obtain ⟨lo,hk⟩:∃ k:Nat,Hid (pickV a2 ((u.length+1:Nat):Int)=((k:Nat):Int)):=⟨(pickV a2 ((u.length+1:Nat):Int)).toNat,ι (by omega)⟩;have HLP:=hk;rw [hk.out] at hpr;clear hk
 have hlo:lo≤u.length:=by omega
 clear hpr;have hpr:=pickV_range (x:=a3) (show (0:Int)<((u.length - lo+1:Nat):Int) by omega);obtain ⟨m,hk⟩:∃ k:Nat,Hid (pickV a3 ((u.length - lo+1:Nat):Int)=((k:Nat):Int)):=⟨(pickV a3 ((u.length - lo+1:Nat):Int)).toNat,ι (by omega)⟩;have HMP:=hk;rw [hk.out] at hpr;clear hk
 have hlm:lo+m≤u.length:=by omega
 clear hpr;obtain ⟨ca,cc,hcut,hci⟩:=cut_word NU.out.i hlm;have HCUT:=ι hcut;have HCI:=ι hci;clear hcut hci;obtain ⟨z,hz⟩:∃ z,Hid ((u.drop lo).take m=z):=⟨_,ι rfl⟩;have HZL:=ι (show z.length=m by rw [← hz.out]; simp; omega);have HPC:=ι (show evN d gs z∈st.1∧wdOf st (evN d gs z)=z from HWT.out.piece HXS.out (p:=u.take lo) (s:=u.drop (lo+m)) (by rw [hu.out,← hz.out]; exact cut_app u lo m));have HZO:=ι (show okW gs.length z from fun y hy=>HOK.out.1 y (by rw [← hz.out] at hy; exact List.mem_of_mem_drop (List.mem_of_mem_take hy)));rw [hz.out] at HCI;have hzl:z.length=m:=HZL.out;have HRG:=ι (rgC_zero HD.out.1 HCK.out (by omega) (ev_gd HGS.out HZO.out));go_upto_region 4 with (fail);refine Rg.wl ?_;refine Rg.lm 23 (.int .i64 0) ?_;go_frame;refine Rg.lr 24 (exec_bin (R:=.bool false) .neq _ _ _ rfl rfl rfl (b_neqB _ Rg.dF)) ?_;go_frame;refine Rg.lm 25 (.bool false) ?_;go_frame
 refine Rg.lW 26 (Rg.xm (.slice (some ⟨wb,wo,none⟩) A.length wc) _ rfl rfl) ?_;go_frame;refine Rg.lW 27 (exec_len _ _ _ rfl Tryz.underlying39 _ _ _ rfl) ?_;go_frame;refine Rg.lW 28 (exec_bin (R:=.bool false) .eql _ _ _ rfl rfl rfl (b_eql _ Rg.dF)) ?_;go_frame;refine Rg.lr 29 (exec_pickF (v:=.bool false) _ _ _ rfl rfl rfl) ?_;go_frame;go_upto_region 6 with (fail);refine Rg.wl ?_;refine Rg.lm 30 (.slice (some ⟨wb,wo,none⟩) A.length wc) ?_;go_frame;refine Rg.lm 31 (.int .i64 a1) ?_;go_frame;refine Rg.lm 32 (.slice (some ⟨wb,wo,none⟩) A.length wc) ?_;go_frame;refine Rg.lr 33 (exec_len _ _ _ rfl Tryz.underlying39 _ _ _ rfl) ?_;go_frame;refine Rg.lk 34 (exec_fn 35 _ _ _ rfl rfl rfl (Zjcl0 _ _)) ?_;refine (Pick_any a1 ((A.length:Nat):Int) w3 (by omega) (by omega)).mono ?_;rintro e1 w4 ⟨rfl,hb⟩;rw [HKP.out];refine ⟨_,rfl,?_⟩;go_frame;replace HG:=ι (HG.out.below hb);replace G6:=ι (G6.out.below hb)
 replace WR:=ι (WR.out.below hb);replace CU:=ι (CU.out.below hb);replace NU:=ι (NU.out.below hb);replace K:=ι (Rg.acc K.out hb);clear hb;refine Rg.lr 35 (exec_indexS slWordsB _ _ rfl wb (wo) (A.length) wc (k) rfl rfl HKL.out) ?_;go_frame;refine Rg.lr 36 (Rg.exec_load (v:=.slice ua u.length uc) _ _ rfl ⟨wb,wo+k,none⟩ rfl (Rg.run_loadSl _ _ Tryz.underlying26 CU.out.cell)) ?_;go_frame;refine Rg.la 13 (.slice ua u.length uc) ?_;go_frame;go_upto_region 7 with (fail);refine Rg.wl ?_;refine Rg.lm 37 (.int .i64 a2) ?_;go_frame;refine Rg.lm 38 (.slice ua u.length uc) ?_;go_frame;refine Rg.lr 39 (exec_len _ _ _ rfl Tryz.underlying26 _ _ _ rfl) ?_;go_frame;refine Rg.lr 40 (exec_bin (R:=.int .i64 (((u.length+1):Nat):Int)) .add _ _ _ rfl rfl rfl (b_add _ (by omega) (by omega))) ?_;go_frame;refine Rg.lk 41 (exec_fn 35 _ _ _ rfl rfl rfl (Zjcl0 _ _)) ?_;refine (Pick_any a2 ((u.length+1:Nat):Int) w4 (by omega) (by omega)).mono ?_
 rintro e1 w5 ⟨rfl,hb⟩;rw [HLP.out];refine ⟨_,rfl,?_⟩;go_frame;replace HG:=ι (HG.out.below hb);replace G6:=ι (G6.out.below hb);replace WR:=ι (WR.out.below hb);replace CU:=ι (CU.out.below hb);replace NU:=ι (NU.out.below hb);replace K:=ι (Rg.acc K.out hb);clear hb;refine Rg.la 2 (.int .i64 ((lo:Nat):Int)) ?_;go_frame;go_upto_region 8 with (fail);refine Rg.wl ?_;refine Rg.lm 42 (.int .i64 ((lo:Nat):Int)) ?_;go_frame;refine Rg.lm 43 (.int .i64 a3) ?_;go_frame;refine Rg.lm 44 (.slice ua u.length uc) ?_;go_frame;refine Rg.lr 45 (exec_len _ _ _ rfl Tryz.underlying26 _ _ _ rfl) ?_;go_frame;refine Rg.lm 46 (.int .i64 ((lo:Nat):Int)) ?_;go_frame;refine Rg.lr 47 (exec_bin (R:=.int .i64 (((u.length - lo):Nat):Int)) .sub _ _ _ rfl rfl rfl (b_sub _ (by omega) (by omega))) ?_;go_frame;refine Rg.lr 48 (exec_bin (R:=.int .i64 (((u.length - lo+1):Nat):Int)) .add _ _ _ rfl rfl rfl (b_add _ (by omega) (by omega))) ?_;go_frame
 refine Rg.lk 49 (exec_fn 35 _ _ _ rfl rfl rfl (Zjcl0 _ _)) ?_;refine (Pick_any a3 ((u.length - lo+1:Nat):Int) w5 (by omega) (by omega)).mono ?_;rintro e1 w6 ⟨rfl,hb⟩;rw [HMP.out];refine ⟨_,rfl,?_⟩;go_frame;replace HG:=ι (HG.out.below hb);replace G6:=ι (G6.out.below hb);replace WR:=ι (WR.out.below hb);replace CU:=ι (CU.out.below hb);replace NU:=ι (NU.out.below hb);replace K:=ι (Rg.acc K.out hb);clear hb;refine Rg.lr 50 (exec_bin (R:=.int .i64 (((lo+m):Nat):Int)) .add _ _ _ rfl rfl rfl (b_add _ (by omega) (by omega))) ?_;go_frame;refine Rg.la 3 (.int .i64 (((lo+m):Nat):Int)) ?_;go_frame;go_upto_region 9 with (fail);refine Rg.wl ?_;refine Rg.lr 51 (Rg.exec_load (v:=.agg #[.int .i64 ((d:Nat):Int),.slice ga (gs.map Ma.ofN).length gc]) _ _ rfl ⟨w2.heap.size,0,none⟩ rfl (run_loadG G6.out.c0 G6.out.c1)) ?_;go_frame;refine Rg.lm 52 (.slice ua u.length uc) ?_;go_frame
 refine Rg.lk 53 (exec_fn 31 _ _ _ rfl rfl rfl (Drcl4 _ _)) ?_;refine (fine_yes HGS.out HD.out.1 (by omega) (by have:=HGL.out; omega) _ _ u w6 HG.out NU.out.i (by omega) HOK.out.1).mono ?_;rintro e1 w7 ⟨rfl,hb⟩;refine ⟨_,rfl,?_⟩;go_frame;replace HG:=ι (HG.out.below hb);replace G6:=ι (G6.out.below hb);replace WR:=ι (WR.out.below hb);replace CU:=ι (CU.out.below hb);replace NU:=ι (NU.out.below hb);replace K:=ι (Rg.acc K.out hb);clear hb;refine Rg.lr 54 (exec_not _ _ true rfl rfl) ?_;go_frame;go_upto_region 11 with (fail);have hV0:Below w7.heap.size w7 w7.drew:=(Below.refl _ _).drew;replace HG:=ι (HG.out.below hV0);replace G6:=ι (G6.out.below hV0);replace WR:=ι (WR.out.below hV0);replace CU:=ι (CU.out.below hV0);replace NU:=ι (NU.out.below hV0);replace K:=ι (Rg.acc K.out hV0);clear hV0;refine Rg.Any.begin (S:=Rg.Both 12 (fun _=>True) (fun W=>Below w7.drew.heap.size w7.drew W)) mix ?_
 generalize w7.drew=w8 at *;have hS:∀ (l:Array Bool) W,Below w8.heap.size w8 W→Rg.Both 12 (fun _=>True) (fun W=>Below w8.heap.size w8 W) l W:=fun l W h=>⟨.inr trivial,h⟩;have hI:Below w8.heap.size w8 w8:=Below.refl _ _;refine Rg.tg 0 12 (.agg #[.int .i64 ((d:Nat):Int),.slice ga (gs.map Ma.ofN).length gc]) 56 rfl rfl (Rg.yields_cell _ _ rfl rfl ⟨w2.heap.size,0,none⟩ rfl (fun W hW=>run_loadG ((Below.cell (p:=⟨w2.heap.size,0,none⟩) hW G6.out.lt).trans G6.out.c0) ((Below.cell (p:=⟨w2.heap.size,1,none⟩) hW G6.out.lt).trans G6.out.c1))) (hS _ _ hI) ?_;go_frame;refine Rg.tg 1 12 (.agg #[.int .i64 ((d:Nat):Int),.slice ga (gs.map Ma.ofN).length gc]) 57 rfl rfl (Rg.yields_cell _ _ rfl rfl ⟨w2.heap.size,0,none⟩ rfl (fun W hW=>run_loadG ((Below.cell (p:=⟨w2.heap.size,0,none⟩) hW G6.out.lt).trans G6.out.c0) ((Below.cell (p:=⟨w2.heap.size,1,none⟩) hW G6.out.lt).trans G6.out.c1))) (hS _ _ hI) ?_;go_frame
 refine Rg.tm 2 12 (.slice ua u.length uc) 58 (hS _ _ hI) ?_;go_frame;refine Rg.tm 3 12 (.int .i64 ((lo:Nat):Int)) 59 (hS _ _ hI) ?_;go_frame;refine Rg.tm 4 12 (.int .i64 (((lo+m):Nat):Int)) 60 (hS _ _ hI) ?_;go_frame;refine Rg.tg 5 12 (.slice ca m cc) 61 rfl rfl (.inl ⟨rfl,fun w _=>exec_cutW _ _ _ rfl rfl rfl rfl (HCUT.out _)⟩) (hS _ _ hI) ?_;go_frame;refine Rg.Any.one (i:=6) (by kernel_rfl) (Rg.Any.ask (some 62) rfl rfl rfl _ _ (exec_fn 32 _ _ _ rfl rfl rfl (Drcl5 _ _)) ?_);refine (lawValue_any HGS.out HD.out.1 (by omega) (by have:=HGL.out; omega) _ _ z w8 HG.out (HCI.out _ NU.out.i) (by omega) HZO.out).mono ?_;rintro e1 w9 ⟨vv,rfl,hvv,hb⟩;have hI2_0:=Rg.acc hI hb;clear hb hI;refine ⟨_,rfl,(hS _ _ hI2_0),?_⟩;go_frame;have VV:=ι (NpI.mk hvv);refine Rg.Any.one (i:=7) (by kernel_rfl) (Rg.Any.ask (some 63) rfl rfl rfl _ _ (exec_fn 22 _ _ _ rfl rfl rfl (Dmcl1 _ _)) ?_)
 refine (fcLeast_any _ _ ((d:Nat):Int) (gs.map Ma.ofN) (Ma.ofN (evN d gs z)) w9 (HG.out.below hI2_0) VV.out.i (by omega)).mono ?_;rintro e1 w10 ⟨rv,rl,rc,rfl,hev,hri,hb⟩;have hkn:=ltV_known (by omega) HBE.out HRG.out hev
 obtain ⟨rfl,rfl⟩:rc=0∧z=rl:=by
   rcases hkn with ⟨h1,_⟩ | ⟨_,h2,h3⟩
   ·exact absurd HPC.out.1 h1
   ·exact ⟨h2,(h3.trans HPC.out.2).symm⟩
 obtain ⟨ra,rc2,hsh,-⟩:=hri.shape;subst hsh;clear hev hkn;have hI3_0:=Rg.acc hI2_0 hb;have hI3_1:=hb;clear hb hI2_0;refine ⟨_,rfl,(hS _ _ hI3_0),?_⟩;go_frame;have RI:=ι (NpI.mk hri);refine Rg.tm 8 12 (.tuple #[.slice ra z.length rc2,.int .i64 0]) 55 (hS _ _ hI3_0) ?_;go_frame;refine Rg.tg 9 12 (.slice ra z.length rc2) 64 rfl rfl (.inl ⟨rfl,fun w _=>exec_extract (v:=.slice ra z.length rc2) _ _ rfl rfl rfl⟩) (hS _ _ hI3_0) ?_;go_frame;refine Rg.tg 10 12 (.int .i64 0) 65 rfl rfl (.inl ⟨rfl,fun w _=>exec_extract (v:=.int .i64 0) _ _ rfl rfl rfl⟩) (hS _ _ hI3_0) ?_;go_frame;refine Rg.tg 11 12 (.slice ra z.length rc2) 14 rfl rfl (.inl ⟨rfl,fun w _=>Rg.exec_assign (v:=.slice ra z.length rc2) _ rfl rfl⟩) (hS _ _ hI3_0) ?_;go_frame;refine Rg.Any.one (i:=12) (by kernel_rfl) (Rg.Any.run (some 12) rfl rfl rfl (Rg.xa (.int .i64 0) _ rfl rfl) (hS _ _ hI3_0) ?_);go_frame
 refine Rg.Any.done (by kernel_rfl) ?_ _;replace HG:=ι (HG.out.below hI3_0);replace G6:=ι (G6.out.below hI3_0);replace WR:=ι (WR.out.below hI3_0);replace CU:=ι (CU.out.below hI3_0);replace NU:=ι (NU.out.below hI3_0);replace VV:=ι (VV.out.below hI3_1);replace K:=ι (Rg.acc K.out hI3_0);clear hS hI3_0 hI3_1;clear hvv hri;go_upto_region 12 with (fail);refine Rg.wl ?_;refine Rg.lm 66 (.bool true) ?_;go_frame;refine Rg.lm 67 (.bool true) ?_;go_frame;refine Rg.lW 68 (Rg.xm (.int .i64 0) _ rfl rfl) ?_;go_frame;refine Rg.lW 69 (exec_eqI _ _ rfl rfl rfl rfl) ?_;go_frame;refine Rg.lr 70 (exec_pickT (v:=.bool true) _ _ _ rfl rfl rfl) ?_;go_frame;refine Rg.lm 71 (.bool true) ?_;go_frame;refine Rg.lW 72 (Rg.xm (.slice ra z.length rc2) _ rfl rfl) ?_;go_frame;refine Rg.lW 73 (Rg.xm (.slice ua u.length uc) _ rfl rfl) ?_;go_frame;refine Rg.lW 74 (Rg.xm (.int .i64 ((lo:Nat):Int)) _ rfl rfl) ?_;go_frame
 refine Rg.lW 75 (Rg.xm (.int .i64 (((lo+m):Nat):Int)) _ rfl rfl) ?_;go_frame;refine Rg.lW 76 (exec_cutW _ _ _ rfl rfl rfl rfl (HCUT.out _)) ?_;go_frame;refine listW_ask (some 77) rfl rfl _ _ (exec_fn 15 _ _ _ rfl rfl rfl (Bncl2 _ _)) ?_;refine (Same_any (w0:=w10) (b:=true) RI.out.i (HCI.out _ NU.out.i) (ι (decide_eq_true rfl)) (Below.refl _ _)).mono ?_;rintro e1 w11 ⟨rfl,hb⟩;refine ⟨_,rfl,?_⟩;go_frame;replace HG:=ι (HG.out.below hb);replace G6:=ι (G6.out.below hb);replace WR:=ι (WR.out.below hb);replace CU:=ι (CU.out.below hb);replace NU:=ι (NU.out.below hb);replace VV:=ι (VV.out.below hb);replace RI:=ι (RI.out.below hb);replace K:=ι (Rg.acc K.out hb);clear hb;refine Rg.lr 78 (exec_pickT (v:=.bool true) _ _ _ rfl rfl rfl) ?_;go_frame;refine Rg.la 8 (.bool true) ?_;go_frame;go_wp2;go_ret;exact ⟨rfl,K.out⟩
end Go.Proofs.YtdnmmibchbceeaaGreat
