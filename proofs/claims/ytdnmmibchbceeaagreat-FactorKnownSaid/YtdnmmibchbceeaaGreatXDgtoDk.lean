/- Lemmas and contracts on the way to the statement; no condition of their own beyond those written. -/
import Derived.Test.YtdnmmibchbceeaaGreatXBntoDf
import Derived.Stop.BytesEq
import Derived.MapKept
import Derived.ChangeMaps5
import Derived.WalkSpells
import Derived.WalkLawsBesides
import Derived.Maps.AppendAt
import Derived.OwnWalk
import Derived.OrdersHeld
import Derived.Deep.OwnRows
import Derived.WalkKit
import Derived.Lib.Hide
import Derived.RangeFuncWrites
import Derived.RangeFuncNested
import Derived.RangeFuncBox
import Derived.RangeFuncLeaves
import Derived.Shelf.Abstract
import Derived.OwnWalkIn
import Derived.TacticsInMore
import Derived.LoopNIn
import Derived.LoopIn
import Derived.Sort.CutIn
import Derived.Deep.CutRange
import Derived.Deep.CutBlock
import Derived.IntWalk
import Derived.Great.BuildSlice
import Derived.ArgAppend
import Derived.Laws.CopyOwn
import Derived.StillTailTactics
import Derived.Deep.MidRow
import Derived.Laws.OwnMore
import Derived.Test.YtdnmmibchbceeaaGreatProg
import Derived.Outline
import Derived.Deep.DeepFit
import Derived.BigQuiet
import Derived.Deep.QuietTactic
import Derived.Sort.OwnSortedInts
import Derived.WideMake
import Derived.Shelf.Sort.Plain
import Derived.Lib.ConvBytes
import Derived.ChangeKeysEq
import Derived.Laws.Cells
import Derived.Laws.Rows
import Derived.Laws.Tables
import Derived.Deep.WholeRow
import Derived.OrdersIn
import Derived.TacticsIn
import Derived.Deep.LoopGhost
import Derived.Lib.SlicesSearch
import Derived.Shelf.SlSortCmp.Whole1
import Derived.Ground.SlsfProg
import Derived.Lib.SmallJoins
import Derived.Deep.Matrix
set_option linter.unusedVariables false
set_option linter.unusedSimpArgs false
set_option maxRecDepth 100000
set_option maxHeartbeats 8000000
namespace Go.Proofs.YtdnmmibchbceeaaGreat
open Go.RowKit
open Go.Proofs
open Go.Proofs.Ob
attribute [local irreducible] Go.Calls Go.wpList
theorem fcMul_f {F:Nat→Prop} {n:Nat} {v1 v2:Value} {a b:List Nat} {w:World} (h1:FP F w v1 a) (h2:FP F w v2 b) (ga:Cm.Gd n a) (gb:Cm.Gd n b) (hn:1≤n) (hn2:n≤64) :
  Calls Tryz.prog 44 #[v1,v2] w fun e w'=>∃ v,e=.returned v∧FP (Fup F w w') w' v (Ma.mulN a b)∧Below w.heap.size w w':=by
 have e1:=ga.2;have e2:=gb.2;refine (fcMul_any v1 v2 a b w h1.np h2.np (fun x hx=>by have:=ga.1.1 x hx; omega) (by omega) (by omega) (by omega)).mono ?_;rintro e w' ⟨v,rfl,hv,hb⟩;exact ⟨v,rfl,FP.new hv,hb⟩
theorem fcInv_f {F:Nat→Prop} {n:Nat} {v1:Value} {a:List Nat} {w:World} (h1:FP F w v1 a) (ga:Cm.Gd n a) (hn:1≤n) (hn2:n≤64) :
  Calls Tryz.prog 45 #[v1] w fun e w'=>∃ v,e=.returned v∧FP (Fup F w w') w' v (Ma.invN a)∧Below w.heap.size w w':=by
 have e1:=ga.2;refine (fcInv_any v1 a w h1.np ga.1 (by omega) (by omega)).mono ?_;rintro e w' ⟨v,rfl,hv,hb⟩;exact ⟨v,rfl,FP.new hv,hb⟩
structure SfM (B:Nat) (F:Nat→Prop) (tb mb N:Nat) (W:World) (S:List Stp) (nx:Nat) (es:List En) (sv lv:Value) (w0:World) (F0:Nat→Prop) (ab:Nat) (x0 y0:Int) (uv:Value) (U:List En):Prop where
 tm:TbM B F tb mb N W S nx es es es sv lv
 kg:KG F0 w0 F W
 nF:∀ k,F k→F0 k∨w0.heap.size≤k
 bl:Below w0.heap.size w0 W
 row:W.ownsRow w0.heap.size 110 1 uv U.length (U.map enP)
 offr:∀ k,uv.ownBlock=some k→¬ F k∧k≠ab
 pw:Pw W ab x0 y0
 offa:¬ F ab∧w0.heap.size≤ab
 mlt:∀ k,tbS tb mb es sv lv k→k<w0.heap.size
theorem SfM.gw {B:Nat} {F:Nat→Prop} {tb mb N:Nat} {W:World} {S:List Stp} {nx:Nat} {es:List En} {sv lv:Value} {w0:World} {F0:Nat→Prop} {ab:Nat} {x0 y0:Int} {uv:Value} {U:List En} (h:SfM B F tb mb N W S nx es sv lv w0 F0 ab x0 y0 uv U) (M:Nat→Prop):Gw F0 M w0 F M W :=
 ⟨h.kg,Rg.Kp.of_below h.bl,h.nF,fun _=>.inl⟩
theorem SfM.up {B:Nat} {F:Nat→Prop} {tb mb N:Nat} {W W':World} {S:List Stp} {nx:Nat} {es:List En} {sv lv:Value} {w0:World} {F0:Nat→Prop} {ab:Nat} {x0 y0:Int} {uv:Value} {U:List En} (h:SfM B F tb mb N W S nx es sv lv w0 F0 ab x0 y0 uv U) (hb:Below W.heap.size W W'):SfM B (Fup F W W') tb mb N W' S nx es sv lv w0 F0 ab x0 y0 uv U:=by
 refine ⟨h.tm.up hb,h.kg.up hb,fun k hk=>?_,h.bl.trans (hb.mono h.bl.size),Rg.row_below h.row hb,fun k e=>⟨fun hk=>?_,(h.offr k e).2⟩,h.pw.below hb,⟨fun hk=>?_,h.offa.2⟩,h.mlt⟩
 ·rcases hk with hk | hk
  ·exact h.nF k hk
  ·exact .inr (Nat.le_trans h.bl.size hk.1)
 ·rcases hk with hk | hk
  ·exact (h.offr k e).1 hk
  ·have:=(World.ownsRow.lt h.row k e).2; omega
 ·rcases hk with hk | hk
  ·exact h.offa.1 hk
  ·have:=h.pw.c0.lt; omega
theorem SfM.push {B:Nat} {F:Nat→Prop} {tb mb N:Nat} {W:World} {S:List Stp} {nx:Nat} {es:List En} {sv lv:Value} {w0:World} {F0:Nat→Prop} {ab:Nat} {x0 y0:Int} {uv:Value} {U:List En} (h:SfM B F tb mb N W S nx es sv lv w0 F0 ab x0 y0 uv U) (e:En) (hn:U.length<1000000) (ty:TypeId) :
  ∃ a c X,(Builtin.append_ #[102,102] ty #[uv,.slice (some ⟨W.heap.size,0,none⟩) 1 1]).run Tryz.prog (W.alloc (.cells #[enP e] 110))=.ok (.slice a (U.length+1) c) X ∧
   SfM B F tb mb N X S nx es sv lv w0 F0 ab x0 y0 (.slice a (U.length+1) c) (U++[e])∧KF F W X∧Rg.Kp (fun k=>uv.ownBlock=some k) W X:=by
 have hb:Below W.heap.size W (W.alloc (.cells #[enP e] 110)):=(Below.refl _ _).alloc (Nat.le_refl _) _
 have e2:(W.alloc (.cells #[enP e] 110)).heap.size=W.heap.size+1:=by simp
 obtain ⟨v',X,r1,r2,q3,q4,a,c,rfl⟩:=app_run (P:=Tryz.prog) slEnts ty (Rg.row_below h.row hb) (Nat.le_trans h.bl.size hb.size) W.heap.size 1 (u:=enP e) (by rw [Rg.cellNew]; rfl) rfl hn;have r3:Rg.Kp (fun k=>uv.ownBlock=some k) W X:=Rg.Kp.trans (M:=fun k=>uv.ownBlock=some k) ((Rg.Kp.of_below hb).weak fun _=>False.elim) (Rg.Kp.of_grown q3 fun _ e=>e) (fun _ _ e=>e);have hF:∀ k,F k→¬ uv.ownBlock=some k:=fun k hf e=>(h.offr k e).1 hf;have hkf:KF F W X:=r3.weak fun k e hf=>hF k hf e;refine ⟨a,c,X,r1,⟨h.tm.kp r3 (fun k e hm=>?_) hF,h.kg.kf' hkf,h.nF,Rg.Kp.below h.bl r3 (fun k e=>(World.ownsRow.lt h.row k e).1),by rw [List.length_append,List.map_append]; exact r2,fun k e=>?_,h.pw.kp r3 (fun e=>(h.offr ab e).2 rfl),h.offa,h.mlt⟩,hkf,r3⟩
 ·have:=h.mlt k hm
  have:=(World.ownsRow.lt h.row k e).1;omega
 ·rcases q4 with q4 | q4
  ·exact h.offr k (by rw [← q4]; exact e)
  ·rw [q4] at e
   injection e with e
   refine ⟨fun hf=>?_,fun e3=>?_⟩
   ·have:=h.tm.Flt k hf; omega
   ·have:=h.pw.c0.lt; omega
theorem SfM.set {B:Nat} {F:Nat→Prop} {tb mb N:Nat} {W:World} {S:List Stp} {nx:Nat} {es:List En} {sv lv:Value} {w0:World} {F0:Nat→Prop} {ab:Nat} {x0 y0:Int} {uv:Value} {U:List En} (h:SfM B F tb mb N W S nx es sv lv w0 F0 ab x0 y0 uv U) (u v:Int) :
  SfM B F tb mb N ((W.setCell ⟨ab,0,none⟩ (.int .i64 u)).setCell ⟨ab,1,none⟩ (.int .i64 v)) S nx es sv lv w0 F0 ab u v uv U∧KF F W ((W.setCell ⟨ab,0,none⟩ (.int .i64 u)).setCell ⟨ab,1,none⟩ (.int .i64 v)):=by
 have hk:Rg.Kp (fun k=>k=ab) W ((W.setCell ⟨ab,0,none⟩ (.int .i64 u)).setCell ⟨ab,1,none⟩ (.int .i64 v)):=Rg.Kp.trans (M:=fun k=>k=ab) (Rg.Kp.of_setCell rfl) (Rg.Kp.of_setCell (M:=fun k=>k=ab) rfl) (fun _ _ e=>e);have hF:∀ k,F k→¬ k=ab:=fun k hf e=>h.offa.1 (e▸hf);have hkf:=hk.weak (M':=fun k=>¬ F k) fun k e hf=>hF k hf e;refine ⟨⟨h.tm.kp hk (fun k e hm=>?_) hF,h.kg.kf' hkf,h.nF,Rg.Kp.below h.bl hk (fun k e=>e▸h.offa.2),rowKp h.row hk (fun k e e2=>(h.offr k e2).2 e),h.offr,h.pw.set u v,h.offa,h.mlt⟩,hkf⟩;have:=h.mlt k hm;have:=h.offa.2;omega
def SiP (B:Nat) (F:Nat→Prop) (tb mb N:Nat) (S:List Stp) (nx:Nat) (es:List En) (sv lv:Value) (U:List En) (A:Nat × List Nat) (w:World) (ed:Ending) (w':World):Prop :=
 ∃ (F':Nat→Prop) (uv rv:Value) (x y:Int),ed=.returned (.tuple #[uv,rv,.agg #[.int .i64 x,.int .i64 y],.bool (decide (A.1<N))])∧(A.1<N→x=((A.1:Nat):Int)∧y=((Cm.ap A.2 A.1:Nat):Int)) ∧
  TbM B F' tb mb N w' S nx es es es sv lv∧(∀ M,Gw F M w F' M w')∧Below w.heap.size w w'∧w'.ownsRow w.heap.size 110 1 uv U.length (U.map enP)∧(∀ k,uv.ownBlock=some k→¬ F' k)∧FP F' w' rv A.2
theorem SiP.intro {B:Nat} {F0 F:Nat→Prop} {tb mb N:Nat} {w W:World} {S:List Stp} {nx:Nat} {es:List En} {sv lv:Value} {ab:Nat} {x0 y0:Int} {uv rv:Value} {U:List En} {A:Nat × List Nat} (h:SfM B F tb mb N W S nx es sv lv w F0 ab x0 y0 uv U) (b:Bool) (hb:decide (A.1<N)=b) (hx:A.1<N→x0=((A.1:Nat):Int)∧y0=((Cm.ap A.2 A.1:Nat):Int)) (hr:FP F W rv A.2) :
  SiP B F0 tb mb N S nx es sv lv U A w (.returned (.tuple #[uv,rv,.agg #[.int .i64 x0,.int .i64 y0],.bool b])) W :=
 ⟨F,uv,rv,x0,y0,by rw [hb],hx,h.tm,h.gw,h.bl,h.row,fun k e=>(h.offr k e).1,hr⟩
theorem sift_t {B:Nat} {F0:Nat→Prop} {tb mb N:Nat} {w:World} {gs:List (List Nat)} {S:List Stp} {T:List (List Nat)} {nx:Nat} {es:List En} {sv lv:Value} (hp:Tb N gs S T es) (h:TbM B F0 tb mb N w S nx es es es sv lv) (hn1:1≤N) (hn2:N≤64) {xv:Value} {x:List Nat} (hx:FP F0 w xv x) (gx:Cm.Gd N x) :
  Calls Tryz.prog 65 #[.pointer (some ⟨tb,0,none⟩),xv] w (SiP B F0 tb mb N S nx es sv lv (usE es N N x) (Cm.sfP N (Cm.idT N (trE es)) N x) w):=by
 obtain ⟨xb0,xo0,xc0,rfl⟩:=hx.shape' gx hn1;have HR:=ι hp.ok.rp;have HG:=ι (fun e he=>(hp.en e he).gd);obtain ⟨A,hA⟩:∃ A,Hid (A=Cm.sfP N (Cm.idT N (trE es)) N x):=⟨_,ι rfl⟩;obtain ⟨UU,hUU⟩:∃ U,Hid (U=usE es N N x):=⟨_,ι rfl⟩;rw [← hA.out,← hUU.out];have HS0:=ι (show Cm.sfP N (Cm.idT N (trE es)) (N - 0) x=A from hA.out.symm);have HU0:=ι (show []++usE es N (N - 0) x=UU from hUU.out.symm);have GX:=ι gx;have hba:Below w.heap.size w (w.alloc (.cells #[.int .i64 0,.int .i64 0] 106)):=(Below.refl _ _).alloc (Nat.le_refl _) _;have hpw:=Pw.new w;have hMl:=h.Mlt;have hFl:=h.Flt
 have SM:=ι (show SfM B F0 tb mb N (w.alloc (.cells #[.int .i64 0,.int .i64 0] 106)) S nx es sv lv w F0 w.heap.size 0 0 (.slice none 0 0) [] from
  ⟨h.below hba,(KG.refl hFl).kf' (KF.of_below hba),fun _=>.inl,hba,World.ownsRow_nil _ _ _ _,fun k e=>(by cases e),hpw,⟨fun e=>Nat.lt_irrefl _ (hFl _ e),Nat.le_refl _⟩,hMl⟩)
 have X:=ι (FP.kf hx (KF.of_below hba));obtain ⟨ab,hab⟩:∃ b,b=w.heap.size:=⟨_,rfl⟩;clear hba hpw hMl hFl hp h hx gx
 go_enter Tryz.func65,Tryz.ntmps65
 go_upto_region 0 with (fail);refine Rg.wl ?_;refine Rg.la 4 (.slice none 0 0) ?_;go_frame;refine Rg.la 5 (.slice none 0 0) ?_;go_frame;refine Rg.lr 6 (exec_allocP2 rfl) ?_;go_frame;refine Rg.la 7 (.bool false) ?_;go_frame;generalize hw0:w.alloc (.cells #[.int .i64 0,.int .i64 0] 106)=w0 at *;clear hw0;rw [← hab] at SM ⊢;go_upto_region 1 with (fail);refine Rg.wl ?_;refine Rg.la 8 (.int .i64 ((0:Nat):Int)) ?_;go_frame;go_wp2
 go_loopw [1,4,8] (fun yv uv iv wr=>∃ (i:Nat) (y:List Nat) (F1:Nat→Prop) (U:List En),i≤N∧iv=.int .i64 ((i:Nat):Int)∧Hid (FP F1 wr yv y)∧Hid (SfM B F1 tb mb N wr S nx es sv lv w F0 ab 0 0 uv U)∧Hid (Cm.Gd N y)∧Hid (Cm.sfP N (Cm.idT N (trE es)) (N - i) y=A)∧Hid (U++usE es N (N - i) y=UU)∧Hid (U.length≤i)) (fun _ _ iv _=>N - (intOf iv).toNat)
 case atStart=>exact ⟨0,x,F0,[],Nat.zero_le _,rfl,X,SM,GX,HS0,HU0,ι (Nat.le_refl 0)⟩
 case round =>
  clear X SM GX HS0 HU0;obtain ⟨i,y,F,U,hi,rfl,X,SM,GY,HS,HU,HUL⟩:=hrel;obtain ⟨ua,uc,hsh⟩:=Rg.row_shape SM.out.row;subst hsh;obtain ⟨xb,xo,xc,hsh⟩:=X.out.shape' GY.out hn1;subst hsh
  by_cases hin:i<N
  case neg =>
   obtain rfl:i=N:=by omega
   have HE:=ι (show A=(i,y) by rw [← HS.out,Nat.sub_self]; rfl);have HUE:=ι (show U=UU by have:=HU.out; rw [Nat.sub_self] at this; simpa [usE] using this);go_upto_region 2 with (fail);refine Rg.wl ?_;refine Rg.lm 10 (.int .i64 ((i:Nat):Int)) ?_;go_frame;refine Rg.lm 11 (.pointer (some ⟨tb,0,none⟩)) ?_;go_frame;refine Rg.lr 12 (exec_nil _ rfl rfl) ?_;go_frame;refine Rg.lr 13 (exec_field _ rfl rfl (tblF1 _ _)) ?_;go_frame;refine Rg.lr 14 (Rg.exec_load (v:=.int .i64 ((i:Nat):Int)) _ _ rfl ⟨tb,2,none⟩ rfl (run_loadInt SM.out.tm.h2.c)) ?_;go_frame;refine Rg.lr 15 (exec_bin (R:=.bool false) .lss _ _ _ rfl rfl rfl (b_lss _ Rg.dF)) ?_;go_frame;go_upto_region 9 with (fail);have hV0:Below wr.heap.size wr wr.drew:=(Below.refl _ _).drew;replace X:=ι (X.out.up hV0);replace SM:=ι (SM.out.up hV0);generalize Fup F wr wr.drew=F1 at *;clear hV0;refine Rg.Any.begin (S:=Rg.Both 5 (fun W:World=>W.cell? ⟨ab,0,none⟩=some (.int .i64 0)∧W.cell? ⟨ab,1,none⟩=some (.int .i64 0)) (fun _=>True)) mix ?_
   generalize wr.drew=w11 at *;have hS:∀ (l:Array Bool) W,(fun W:World=>W.cell? ⟨ab,0,none⟩=some (.int .i64 0)∧W.cell? ⟨ab,1,none⟩=some (.int .i64 0)) W→Rg.Both 5 (fun W:World=>W.cell? ⟨ab,0,none⟩=some (.int .i64 0)∧W.cell? ⟨ab,1,none⟩=some (.int .i64 0)) (fun _=>True) l W:=fun l W h=>⟨.inr h,trivial⟩;have hS2:∀ (l:Array Bool) W,l.getD 5 false=true→Rg.Both 5 (fun W:World=>W.cell? ⟨ab,0,none⟩=some (.int .i64 0)∧W.cell? ⟨ab,1,none⟩=some (.int .i64 0)) (fun _=>True) l W:=fun l W h=>⟨.inl h,trivial⟩;have hI:(fun W:World=>W.cell? ⟨ab,0,none⟩=some (.int .i64 0)∧W.cell? ⟨ab,1,none⟩=some (.int .i64 0)) w11:=⟨SM.out.pw.c0.c,SM.out.pw.c1.c⟩;refine Rg.tm 0 5 (.slice ua U.length uc) 55 (hS _ _ hI) ?_;go_frame;refine Rg.tm 1 5 (.slice (some ⟨xb,xo,none⟩) i xc) 56 (hS _ _ hI) ?_;go_frame;refine Rg.Any.takeT (i:=2) (t:=5) (v:=(.agg #[.int .i64 0,.int .i64 0])) (some 57) rfl rfl (by kernel_rfl) (by kernel_rfl) (by kernel_rfl) (fun _ _ _ h=>h) rfl (by kernel_rfl) rfl (Rg.yields_cell _ _ rfl rfl ⟨ab,0,none⟩ rfl (fun W hW=>run_loadP2 hW.1 hW.2)) (hS _ _ hI) ?_;go_frame
   refine Rg.tg 3 5 (.slice ua U.length uc) 4 rfl rfl (.inl ⟨rfl,fun w _=>Rg.exec_assign (v:=.slice ua U.length uc) _ rfl rfl⟩) (hS _ _ hI) ?_;go_frame;refine Rg.tg 4 5 (.slice (some ⟨xb,xo,none⟩) i xc) 5 rfl rfl (.inl ⟨rfl,fun w _=>Rg.exec_assign (v:=.slice (some ⟨xb,xo,none⟩) i xc) _ rfl rfl⟩) (hS _ _ hI) ?_;go_frame;obtain ⟨hS9,hkf9⟩:=SM.out.set 0 0;have hX9:=FP.kf X.out hkf9;refine Rg.Any.one (i:=5) (by kernel_rfl) (Rg.Any.runSkip none rfl rfl rfl (Rg.exec_store _ _ _ rfl _ rfl _ rfl (SM.out.pw.run 0 0)) (hS2 _ _ rfl) ?_);go_frame;refine Rg.tg 6 5 (.bool false) 7 rfl rfl (.inl ⟨rfl,fun w _=>Rg.exec_assign (v:=.bool false) _ rfl rfl⟩) (hS2 _ _ rfl) ?_;go_frame;refine Rg.Any.done (by kernel_rfl) ?_ _;clear hS2;clear hS hI;generalize (w11.setCell ⟨ab,0,none⟩ (.int .i64 0)).setCell ⟨ab,1,none⟩ (.int .i64 0)=w9 at *;have HPW:=ι hS9.pw
   have HFI:=ι (show SiP B F0 tb mb i S nx es sv lv UU A w (.returned (.tuple #[.slice ua U.length uc,.slice (some ⟨xb,xo,none⟩) i xc,.agg #[.int .i64 0,.int .i64 0],.bool false])) w9 from by
    rw [← HUE.out]
    exact SiP.intro hS9 false (by rw [HE.out]; simp) (fun h=>by rw [HE.out] at h; exact absurd h (Nat.lt_irrefl _)) (by rw [HE.out]; exact hX9))
   clear hS9 hX9 hkf9;go_wp2;exact bodyPost_ret (results_sift (t:=4) (u:=5) (p:=6) (v:=7) rfl _ rfl rfl rfl rfl HPW.out) rfl HFI.out
  case pos =>
   have HIN:=ι hin;have hqn:=Cm.ap_lt GY.out hin;obtain ⟨q,hq⟩:∃ q:Nat,Hid (q=Cm.ap y i):=⟨_,ι rfl⟩;rw [← hq.out] at hqn;have CX:=ι (show CF F wr xb (xo+i) (.int .i64 ((q:Nat):Int)) by rw [hq.out]; exact X.out.ap GY.out hin);go_upto_region 2 with (fail);refine Rg.wl ?_;refine Rg.lm 10 (.int .i64 ((i:Nat):Int)) ?_;go_frame;refine Rg.lm 11 (.pointer (some ⟨tb,0,none⟩)) ?_;go_frame;refine Rg.lr 12 (exec_nil _ rfl rfl) ?_;go_frame;refine Rg.lr 13 (exec_field _ rfl rfl (tblF1 _ _)) ?_;go_frame;refine Rg.lr 14 (Rg.exec_load (v:=.int .i64 ((N:Nat):Int)) _ _ rfl ⟨tb,2,none⟩ rfl (run_loadInt SM.out.tm.h2.c)) ?_;go_frame;refine Rg.lr 15 (exec_bin (R:=.bool true) .lss _ _ _ rfl rfl rfl (b_lss _ Rg.dT)) ?_;go_frame
   by_cases hqi:q=i
   case pos =>
    have hqN:(q:Int)=(i:Int):=by omega
    have HY:=ι (show Cm.sfP N (Cm.idT N (trE es)) (N - (i+1)) y=A by rw [← HS.out]; exact (sfP_eq hin GY.out (by rw [← hq.out]; exact hqi)).symm);have HU2:=ι (show U++usE es N (N - (i+1)) y=UU by rw [← HU.out,usE_eq hin (by rw [← hq.out]; exact hqi)]);have HUL2:=ι (show U.length≤i+1 from Nat.le_succ_of_le HUL.out);clear hqi;go_upto_region 4 with (fail);refine Rg.wl ?_;refine Rg.lm 18 (.slice (some ⟨xb,xo,none⟩) N xc) ?_;go_frame;refine Rg.lm 19 (.int .i64 ((i:Nat):Int)) ?_;go_frame;refine Rg.lr 20 (exec_indexS slPerm _ _ rfl xb (xo) (N) xc (i) rfl rfl HIN.out) ?_;go_frame;refine Rg.lr 21 (Rg.exec_load (v:=.int .i64 ((q:Nat):Int)) _ _ rfl ⟨xb,xo+i,none⟩ rfl (run_loadInt CX.out.cell)) ?_;go_frame;refine Rg.lm 22 (.int .i64 ((i:Nat):Int)) ?_;go_frame;refine Rg.lr 23 (exec_bin (R:=.bool true) .eql _ _ _ rfl rfl rfl (b_eql _ Rg.dT)) ?_;go_frame;go_upto_region 3 with (fail)
    refine Rg.wl ?_;refine Rg.lm 16 (.int .i64 ((i:Nat):Int)) ?_;go_frame;refine Rg.lr 17 (exec_bin (R:=.int .i64 (((i+1):Nat):Int)) .add _ _ _ rfl rfl rfl (b_add _ (by omega) (by omega))) ?_;go_frame;refine Rg.la 8 (.int .i64 (((i+1):Nat):Int)) ?_;go_frame;go_wp2
    go_roundw
    case rel=>exact ⟨i+1,y,_,U,HIN.out,by go_num,X,SM,GY,HY,HU2,HUL2⟩
    case measure=>simp [intOf]; have:=HIN.out; omega
   case neg =>
    have hqN:¬ (q:Int)=(i:Int):=by omega
    have HQI:=ι (show Cm.ap y i≠i by rw [← hq.out]; exact hqi);clear hqi;go_upto_region 4 with (fail);refine Rg.wl ?_;refine Rg.lm 18 (.slice (some ⟨xb,xo,none⟩) N xc) ?_;go_frame;refine Rg.lm 19 (.int .i64 ((i:Nat):Int)) ?_;go_frame;refine Rg.lr 20 (exec_indexS slPerm _ _ rfl xb (xo) (N) xc (i) rfl rfl HIN.out) ?_;go_frame;refine Rg.lr 21 (Rg.exec_load (v:=.int .i64 ((q:Nat):Int)) _ _ rfl ⟨xb,xo+i,none⟩ rfl (run_loadInt CX.out.cell)) ?_;go_frame;refine Rg.lm 22 (.int .i64 ((i:Nat):Int)) ?_;go_frame;refine Rg.lr 23 (exec_bin (R:=.bool false) .eql _ _ _ rfl rfl rfl (b_eql _ Rg.dF)) ?_;go_frame
    cases hfe:fnd es i q with
    | none =>
     have HFE:=ι hfe;have HE:=ι (show A=(i,y) by rw [← HS.out]; exact sfP_no hin HQI.out (by rw [← hq.out]; exact hfe));have HUE:=ι (show U=UU by rw [← HU.out,usE_none hin HQI.out (by rw [← hq.out]; exact hfe),List.append_nil]);clear hfe;go_upto_region 5 with (fail);have hV0:Below wr.heap.size wr wr.drew:=(Below.refl _ _).drew;replace X:=ι (X.out.up hV0);replace SM:=ι (SM.out.up hV0);replace CX:=ι (CX.out.up hV0);generalize Fup F wr wr.drew=F1 at *;clear hV0;refine Rg.Any.begin (S:=Rg.Both 11 (fun W:World=>W.cell? ⟨tb,3,none⟩=some (.map (some mb))∧W.cell? ⟨xb,xo+i,none⟩=some (.int .i64 ((q:Nat):Int))) (fun _=>True)) mix ?_;generalize wr.drew=w21 at *;have hS:∀ (l:Array Bool) W,(fun W:World=>W.cell? ⟨tb,3,none⟩=some (.map (some mb))∧W.cell? ⟨xb,xo+i,none⟩=some (.int .i64 ((q:Nat):Int))) W→Rg.Both 11 (fun W:World=>W.cell? ⟨tb,3,none⟩=some (.map (some mb))∧W.cell? ⟨xb,xo+i,none⟩=some (.int .i64 ((q:Nat):Int))) (fun _=>True) l W:=fun l W h=>⟨.inr h,trivial⟩
     have hS2:∀ (l:Array Bool) W,l.getD 11 false=true→Rg.Both 11 (fun W:World=>W.cell? ⟨tb,3,none⟩=some (.map (some mb))∧W.cell? ⟨xb,xo+i,none⟩=some (.int .i64 ((q:Nat):Int))) (fun _=>True) l W:=fun l W h=>⟨.inl h,trivial⟩;have hI:(fun W:World=>W.cell? ⟨tb,3,none⟩=some (.map (some mb))∧W.cell? ⟨xb,xo+i,none⟩=some (.int .i64 ((q:Nat):Int))) w21:=⟨SM.out.tm.h3.c,CX.out.cell⟩;refine Rg.tm 0 11 (.pointer (some ⟨tb,0,none⟩)) 24 (hS _ _ hI) ?_;go_frame;refine Rg.tg 1 11 (.pointer (some ⟨tb,0,none⟩)) 25 rfl rfl (.inl ⟨rfl,fun w _=>exec_nil _ rfl rfl⟩) (hS _ _ hI) ?_;go_frame;refine Rg.tg 2 11 (.pointer (some ⟨tb,3,none⟩)) 26 rfl rfl (.inl ⟨rfl,fun w _=>exec_field _ rfl rfl (tblF2 _ _)⟩) (hS _ _ hI) ?_;go_frame;refine Rg.Any.takeT (i:=3) (t:=11) (v:=(.map (some mb))) (some 27) rfl rfl (by kernel_rfl) (by kernel_rfl) (by kernel_rfl) (fun _ _ _ h=>h) rfl (by kernel_rfl) rfl (Rg.yields_cell _ _ rfl rfl ⟨tb,3,none⟩ rfl (fun W hW=>run_loadME hW.1)) (hS _ _ hI) ?_;go_frame
     refine Rg.tm 4 11 (.int .i64 ((i:Nat):Int)) 28 (hS _ _ hI) ?_;go_frame;refine Rg.tm 5 11 (.slice (some ⟨xb,xo,none⟩) N xc) 29 (hS _ _ hI) ?_;go_frame;refine Rg.tm 6 11 (.int .i64 ((i:Nat):Int)) 30 (hS _ _ hI) ?_;go_frame;refine Rg.tg 7 11 (.pointer (some ⟨xb,xo+i,none⟩)) 31 rfl rfl (Rg.yields_index slPerm _ _ rfl rfl xb (xo) (N) xc (i) rfl rfl HIN.out) (hS _ _ hI) ?_;go_frame;refine Rg.Any.takeT (i:=8) (t:=11) (v:=.int .i64 ((q:Nat):Int)) (some 32) rfl rfl (by kernel_rfl) (by kernel_rfl) (by kernel_rfl) (fun _ _ _ h=>h) rfl (by kernel_rfl) rfl (Rg.yields_cell _ _ rfl rfl ⟨xb,xo+i,none⟩ rfl (fun W hW=>run_loadInt hW.2)) (hS _ _ hI) ?_;go_frame;refine Rg.tg 9 11 ((.agg #[.int .i64 ((i:Nat):Int),.int .i64 ((q:Nat):Int)])) 33 rfl rfl (.inl ⟨rfl,fun w _=>exec_buildKy _ _ rfl rfl rfl⟩) (hS _ _ hI) ?_;go_frame;have hlk:=Jm.lookup_no ktT SM.out.tm.mp (i,q)
     rw [look_fnd,HFE.out] at hlk;refine Rg.Any.one (i:=10) (by kernel_rfl) (Rg.Any.run (some 34) rfl rfl rfl (Rg.exec_lookup _ _ _ _ rfl _ _ rfl rfl hlk) (hS _ _ hI) ?_);go_frame;refine Rg.Any.one (i:=11) (by kernel_rfl) (Rg.Any.run (some 9) rfl rfl rfl (Rg.xa ((.pointer none)) _ rfl rfl) (hS2 _ _ rfl) ?_);go_frame;refine Rg.Any.done (by kernel_rfl) ?_ _;clear hS2;clear hS hI;go_upto_region 6 with (fail);refine Rg.wl ?_;refine Rg.lm 35 ((.pointer none)) ?_;go_frame;refine Rg.lr 36 (exec_pnilT _ _ rfl rfl rfl) ?_;go_frame;go_upto_region 7 with (fail);have hV0:Below w21.heap.size w21 w21.drew:=(Below.refl _ _).drew;replace X:=ι (X.out.up hV0);replace SM:=ι (SM.out.up hV0);replace CX:=ι (CX.out.up hV0);generalize Fup F1 w21 w21.drew=F2 at *;clear hV0;refine Rg.Any.begin (S:=Rg.Both 10 (fun W:World=>W.cell? ⟨xb,xo+i,none⟩=some (.int .i64 ((q:Nat):Int))) (fun _=>True)) mix ?_
     generalize w21.drew=w22 at *;have hS:∀ (l:Array Bool) W,(fun W:World=>W.cell? ⟨xb,xo+i,none⟩=some (.int .i64 ((q:Nat):Int))) W→Rg.Both 10 (fun W:World=>W.cell? ⟨xb,xo+i,none⟩=some (.int .i64 ((q:Nat):Int))) (fun _=>True) l W:=fun l W h=>⟨.inr h,trivial⟩;have hS2:∀ (l:Array Bool) W,l.getD 10 false=true→Rg.Both 10 (fun W:World=>W.cell? ⟨xb,xo+i,none⟩=some (.int .i64 ((q:Nat):Int))) (fun _=>True) l W:=fun l W h=>⟨.inl h,trivial⟩;have hI:(fun W:World=>W.cell? ⟨xb,xo+i,none⟩=some (.int .i64 ((q:Nat):Int))) w22:=CX.out.cell;refine Rg.tm 0 10 (.slice ua U.length uc) 37 (hS _ _ hI) ?_;go_frame;refine Rg.tm 1 10 (.slice (some ⟨xb,xo,none⟩) N xc) 38 (hS _ _ hI) ?_;go_frame;refine Rg.tm 2 10 (.int .i64 ((i:Nat):Int)) 39 (hS _ _ hI) ?_;go_frame;refine Rg.tm 3 10 (.slice (some ⟨xb,xo,none⟩) N xc) 40 (hS _ _ hI) ?_;go_frame
     refine Rg.tm 4 10 (.int .i64 ((i:Nat):Int)) 41 (hS _ _ hI) ?_;go_frame;refine Rg.tg 5 10 (.pointer (some ⟨xb,xo+i,none⟩)) 42 rfl rfl (Rg.yields_index slPerm _ _ rfl rfl xb (xo) (N) xc (i) rfl rfl HIN.out) (hS _ _ hI) ?_;go_frame;refine Rg.Any.takeT (i:=6) (t:=10) (v:=.int .i64 ((q:Nat):Int)) (some 43) rfl rfl (by kernel_rfl) (by kernel_rfl) (by kernel_rfl) (fun _ _ _ h=>h) rfl (by kernel_rfl) rfl (Rg.yields_cell _ _ rfl rfl ⟨xb,xo+i,none⟩ rfl (fun W hW=>run_loadInt hW)) (hS _ _ hI) ?_;go_frame;refine Rg.tg 7 10 ((.agg #[.int .i64 ((i:Nat):Int),.int .i64 ((q:Nat):Int)])) 44 rfl rfl (.inl ⟨rfl,fun w _=>exec_buildKy _ _ rfl rfl rfl⟩) (hS _ _ hI) ?_;go_frame;refine Rg.tg 8 10 (.slice ua U.length uc) 4 rfl rfl (.inl ⟨rfl,fun w _=>Rg.exec_assign (v:=.slice ua U.length uc) _ rfl rfl⟩) (hS _ _ hI) ?_;go_frame;refine Rg.tg 9 10 (.slice (some ⟨xb,xo,none⟩) N xc) 5 rfl rfl (.inl ⟨rfl,fun w _=>Rg.exec_assign (v:=.slice (some ⟨xb,xo,none⟩) N xc) _ rfl rfl⟩) (hS _ _ hI) ?_;go_frame
     obtain ⟨hS9,hkf9⟩:=SM.out.set ((i:Nat):Int) ((q:Nat):Int);have hX9:=FP.kf X.out hkf9;refine Rg.Any.one (i:=10) (by kernel_rfl) (Rg.Any.runSkip none rfl rfl rfl (Rg.exec_store _ _ _ rfl _ rfl _ rfl (SM.out.pw.run ((i:Nat):Int) ((q:Nat):Int))) (hS2 _ _ rfl) ?_);go_frame;refine Rg.tg 11 10 (.bool true) 7 rfl rfl (.inl ⟨rfl,fun w _=>Rg.exec_assign (v:=.bool true) _ rfl rfl⟩) (hS2 _ _ rfl) ?_;go_frame;refine Rg.Any.done (by kernel_rfl) ?_ _;clear hS2;clear hS hI;generalize (w22.setCell ⟨ab,0,none⟩ (.int .i64 ((i:Nat):Int))).setCell ⟨ab,1,none⟩ (.int .i64 ((q:Nat):Int))=w9 at *;have HPW:=ι hS9.pw
     have HFI:=ι (show SiP B F0 tb mb N S nx es sv lv UU A w (.returned (.tuple #[.slice ua U.length uc,.slice (some ⟨xb,xo,none⟩) N xc,.agg #[.int .i64 ((i:Nat):Int),.int .i64 ((q:Nat):Int)],.bool true])) w9 from by
      rw [← HUE.out]
      exact SiP.intro hS9 true (by rw [HE.out]; simpa using HIN.out) (fun _=>by rw [HE.out]; exact ⟨rfl,by rw [hq.out]⟩) (by rw [HE.out]; exact hX9))
     clear hS9 hX9 hkf9;go_wp2;exact bodyPost_ret (results_sift (t:=4) (u:=5) (p:=6) (v:=7) rfl _ rfl rfl rfl rfl HPW.out) rfl HFI.out
    | some e =>
     have HFE:=ι hfe;have hmem:=(fnd_mem hfe).1;have HEM:=ι hmem;have HY:=ι (show Cm.sfP N (Cm.idT N (trE es)) (N - (i+1)) (Ma.mulN y (Ma.invN e.x))=A by rw [← HS.out]; exact (sfP_yes hin HQI.out (by rw [← hq.out]; exact hfe)).symm);have HU2:=ι (show (U++[e])++usE es N (N - (i+1)) (Ma.mulN y (Ma.invN e.x))=UU by rw [← HU.out,usE_some hin HQI.out (by rw [← hq.out]; exact hfe),List.append_assoc]; rfl);have GI:=ι (Cm.gd_inv (HG.out e hmem));have GY2:=ι (Cm.gd_mul GY.out GI.out);have HUL2:=ι (show (U++[e]).length≤i+1 by rw [List.length_append]; exact Nat.succ_le_succ HUL.out)
     have hul:U.length<100:=by have:=HUL.out; omega
     clear hfe hmem;go_upto_region 5 with (fail);have hV0:Below wr.heap.size wr wr.drew:=(Below.refl _ _).drew;replace X:=ι (X.out.up hV0);replace SM:=ι (SM.out.up hV0);replace CX:=ι (CX.out.up hV0);generalize Fup F wr wr.drew=F1 at *;clear hV0;refine Rg.Any.begin (S:=Rg.Both 11 (fun W:World=>W.cell? ⟨tb,3,none⟩=some (.map (some mb))∧W.cell? ⟨xb,xo+i,none⟩=some (.int .i64 ((q:Nat):Int))) (fun _=>True)) mix ?_;generalize wr.drew=w33 at *;have hS:∀ (l:Array Bool) W,(fun W:World=>W.cell? ⟨tb,3,none⟩=some (.map (some mb))∧W.cell? ⟨xb,xo+i,none⟩=some (.int .i64 ((q:Nat):Int))) W→Rg.Both 11 (fun W:World=>W.cell? ⟨tb,3,none⟩=some (.map (some mb))∧W.cell? ⟨xb,xo+i,none⟩=some (.int .i64 ((q:Nat):Int))) (fun _=>True) l W:=fun l W h=>⟨.inr h,trivial⟩;have hS2:∀ (l:Array Bool) W,l.getD 11 false=true→Rg.Both 11 (fun W:World=>W.cell? ⟨tb,3,none⟩=some (.map (some mb))∧W.cell? ⟨xb,xo+i,none⟩=some (.int .i64 ((q:Nat):Int))) (fun _=>True) l W:=fun l W h=>⟨.inl h,trivial⟩
     have hI:(fun W:World=>W.cell? ⟨tb,3,none⟩=some (.map (some mb))∧W.cell? ⟨xb,xo+i,none⟩=some (.int .i64 ((q:Nat):Int))) w33:=⟨SM.out.tm.h3.c,CX.out.cell⟩;refine Rg.tm 0 11 (.pointer (some ⟨tb,0,none⟩)) 24 (hS _ _ hI) ?_;go_frame;refine Rg.tg 1 11 (.pointer (some ⟨tb,0,none⟩)) 25 rfl rfl (.inl ⟨rfl,fun w _=>exec_nil _ rfl rfl⟩) (hS _ _ hI) ?_;go_frame;refine Rg.tg 2 11 (.pointer (some ⟨tb,3,none⟩)) 26 rfl rfl (.inl ⟨rfl,fun w _=>exec_field _ rfl rfl (tblF2 _ _)⟩) (hS _ _ hI) ?_;go_frame;refine Rg.Any.takeT (i:=3) (t:=11) (v:=(.map (some mb))) (some 27) rfl rfl (by kernel_rfl) (by kernel_rfl) (by kernel_rfl) (fun _ _ _ h=>h) rfl (by kernel_rfl) rfl (Rg.yields_cell _ _ rfl rfl ⟨tb,3,none⟩ rfl (fun W hW=>run_loadME hW.1)) (hS _ _ hI) ?_;go_frame;refine Rg.tm 4 11 (.int .i64 ((i:Nat):Int)) 28 (hS _ _ hI) ?_;go_frame;refine Rg.tm 5 11 (.slice (some ⟨xb,xo,none⟩) N xc) 29 (hS _ _ hI) ?_;go_frame
     refine Rg.tm 6 11 (.int .i64 ((i:Nat):Int)) 30 (hS _ _ hI) ?_;go_frame;refine Rg.tg 7 11 (.pointer (some ⟨xb,xo+i,none⟩)) 31 rfl rfl (Rg.yields_index slPerm _ _ rfl rfl xb (xo) (N) xc (i) rfl rfl HIN.out) (hS _ _ hI) ?_;go_frame;refine Rg.Any.takeT (i:=8) (t:=11) (v:=.int .i64 ((q:Nat):Int)) (some 32) rfl rfl (by kernel_rfl) (by kernel_rfl) (by kernel_rfl) (fun _ _ _ h=>h) rfl (by kernel_rfl) rfl (Rg.yields_cell _ _ rfl rfl ⟨xb,xo+i,none⟩ rfl (fun W hW=>run_loadInt hW.2)) (hS _ _ hI) ?_;go_frame;refine Rg.tg 9 11 ((.agg #[.int .i64 ((i:Nat):Int),.int .i64 ((q:Nat):Int)])) 33 rfl rfl (.inl ⟨rfl,fun w _=>exec_buildKy _ _ rfl rfl rfl⟩) (hS _ _ hI) ?_;go_frame;have hlk:=Jm.lookup_no ktT SM.out.tm.mp (i,q);rw [look_fnd,HFE.out] at hlk;refine Rg.Any.one (i:=10) (by kernel_rfl) (Rg.Any.run (some 34) rfl rfl rfl (Rg.exec_lookup _ _ _ _ rfl _ _ rfl rfl hlk) (hS _ _ hI) ?_)
     go_frame;refine Rg.Any.one (i:=11) (by kernel_rfl) (Rg.Any.run (some 9) rfl rfl rfl (Rg.xa (.pointer (some ⟨e.b,0,none⟩)) _ rfl rfl) (hS2 _ _ rfl) ?_);go_frame;refine Rg.Any.done (by kernel_rfl) ?_ _;clear hS2;clear hS hI;go_upto_region 6 with (fail);refine Rg.wl ?_;refine Rg.lm 35 (.pointer (some ⟨e.b,0,none⟩)) ?_;go_frame;refine Rg.lr 36 (exec_pnilF _ _ rfl rfl rfl) ?_;go_frame;obtain ⟨xv9,yv,q9⟩:=SM.out.tm.en e HEM.out;have UY:=ι q9.y;have CY:=ι q9.c1;have HCY:=ι ((show Below w33.heap.size w33 w33.drew from (Below.refl _ _).drew).cell (p:=⟨e.b,1,none⟩) CY.out.lt);clear q9;go_upto_region 8 with (fail);have hV0:Below w33.heap.size w33 w33.drew:=(Below.refl _ _).drew;replace X:=ι (X.out.up hV0);replace SM:=ι (SM.out.up hV0);replace UY:=ι (UY.out.up hV0);generalize Fup F1 w33 w33.drew=F2 at *;clear hV0;refine Rg.Any.begin (S:=Rg.Both 9 (fun W:World=>W.cell? ⟨e.b,1,none⟩=some yv) (fun _=>True)) mix ?_
     generalize w33.drew=w34 at *;have hS:∀ (l:Array Bool) W,(fun W:World=>W.cell? ⟨e.b,1,none⟩=some yv) W→Rg.Both 9 (fun W:World=>W.cell? ⟨e.b,1,none⟩=some yv) (fun _=>True) l W:=fun l W h=>⟨.inr h,trivial⟩;have hS2:∀ (l:Array Bool) W,l.getD 9 false=true→Rg.Both 9 (fun W:World=>W.cell? ⟨e.b,1,none⟩=some yv) (fun _=>True) l W:=fun l W h=>⟨.inl h,trivial⟩;have hI:(fun W:World=>W.cell? ⟨e.b,1,none⟩=some yv) w34:=HCY.out.trans CY.out.c;refine Rg.tm 0 9 (.slice ua U.length uc) 45 (hS _ _ hI) ?_;go_frame;refine Rg.tm 1 9 (.pointer (some ⟨e.b,0,none⟩)) 46 (hS _ _ hI) ?_;go_frame;refine Rg.tm 4 9 (.slice (some ⟨xb,xo,none⟩) N xc) 49 (hS _ _ hI) ?_;go_frame;refine Rg.tm 5 9 (.pointer (some ⟨e.b,0,none⟩)) 50 (hS _ _ hI) ?_;go_frame;refine Rg.tg 6 9 (.pointer (some ⟨e.b,0,none⟩)) 51 rfl rfl (.inl ⟨rfl,fun w _=>exec_nil _ rfl rfl⟩) (hS _ _ hI) ?_;go_frame
     refine Rg.tg 7 9 (.pointer (some ⟨e.b,1,none⟩)) 52 rfl rfl (.inl ⟨rfl,fun w _=>exec_field _ rfl rfl (enF1 _ _)⟩) (hS _ _ hI) ?_;go_frame;refine Rg.Any.takeT (i:=8) (t:=9) (v:=yv) (some 53) rfl rfl (by kernel_rfl) (by kernel_rfl) (by kernel_rfl) (fun _ _ _ h=>h) rfl (by kernel_rfl) rfl (Rg.yields_cell _ _ rfl rfl ⟨e.b,1,none⟩ rfl (fun W hW=>Rg.run_loadSl _ _ Tryz.underlying30 hW)) (hS _ _ hI) ?_;go_frame;obtain ⟨a9,c9,X9,r1,hS9,hkf9,hk9⟩:=SM.out.push e (by omega) 102;have hba:Below w34.heap.size w34 (w34.alloc (.cells #[enP e] 110)):=(Below.refl _ _).alloc (Nat.le_refl _) _;have hcy1:w34.cell? ⟨e.b,1,none⟩=some yv:=HCY.out.trans CY.out.c
     have hlt1:e.b<w34.heap.size:=by
      obtain ⟨_,_,q8⟩:=SM.out.tm.en e HEM.out;exact q8.c0.lt
     have hI2_m:=(show (fun W:World=>W.cell? ⟨e.b,1,none⟩=some yv) (w34.alloc (.cells #[enP e] 110)) from (hba.cell (p:=⟨e.b,1,none⟩) hlt1).trans hcy1);refine Rg.Any.one (i:=2) (by kernel_rfl) (Rg.Any.run (some 47) rfl rfl rfl (Rg.exec_buildSlice _ _ _ rfl (.pointer (some ⟨e.b,0,none⟩)) rfl (run_build1E w34 _)) (hS _ _ hI2_m) ?_);go_frame
     have hcy9:X9.cell? ⟨e.b,1,none⟩=some yv:=(World.cell?_of_block (a:=⟨e.b,1,none⟩) (hk9.block e.b hlt1 (fun h=>by
      have:=SM.out.mlt e.b (.inr (.inr (.inr (.inr ⟨e,HEM.out,rfl⟩))));have:=(World.ownsRow.lt SM.out.row e.b h).1
      omega))).trans hcy1
     have hI3_m:=(show (fun W:World=>W.cell? ⟨e.b,1,none⟩=some yv) X9 from hcy9);refine Rg.Any.one (i:=3) (by kernel_rfl) (Rg.Any.run (some 48) rfl rfl rfl (Rg.exec_append _ _ _ rfl rfl rfl r1) (hS _ _ hI3_m) ?_);go_frame;replace X:=ι (FP.kf X.out hkf9);replace UY:=ι (FP.kf UY.out hkf9);replace SM:=ι hS9;clear hS9 hkf9 hk9 r1 hba hcy9 hcy1 hlt1;refine Rg.Any.one (i:=9) (by kernel_rfl) (Rg.Any.ask (some 54) rfl rfl rfl _ _ (exec_fn 44 _ _ _ rfl rfl rfl (Bgcl6 _ _)) ?_);refine (fcMul_f X.out UY.out GY.out GI.out hn1 hn2).mono ?_;rintro e1 w35 ⟨mv,rfl,hmv,hb⟩;have hI4_u:=trivial;clear hI3_m;replace X:=ι (X.out.up hb);replace SM:=ι (SM.out.up hb);replace UY:=ι (UY.out.up hb);have MV:=ι hmv;generalize Fup F2 X9 w35=F3 at *;clear hb;refine ⟨_,rfl,(hS2 _ _ rfl),?_⟩;go_frame;refine Rg.tg 10 9 (.slice a9 (U.length+1) c9) 4 rfl rfl (.inl ⟨rfl,fun w _=>Rg.exec_assign (v:=.slice a9 (U.length+1) c9) _ rfl rfl⟩) (hS2 _ _ rfl) ?_;go_frame
     refine Rg.tg 11 9 (mv) 1 rfl rfl (.inl ⟨rfl,fun w _=>Rg.exec_assign (v:=mv) _ rfl rfl⟩) (hS2 _ _ rfl) ?_;go_frame;refine Rg.Any.done (by kernel_rfl) ?_ _;clear hS2;clear hS hI4_u;go_upto_region 3 with (fail);refine Rg.wl ?_;refine Rg.lm 16 (.int .i64 ((i:Nat):Int)) ?_;go_frame;refine Rg.lr 17 (exec_bin (R:=.int .i64 (((i+1):Nat):Int)) .add _ _ _ rfl rfl rfl (b_add _ (by omega) (by omega))) ?_;go_frame;refine Rg.la 8 (.int .i64 (((i+1):Nat):Int)) ?_;go_frame;clear hmv;go_wp2
     go_roundw
     case rel=>exact ⟨i+1,_,_,U++[e],HIN.out,by go_num,MV,SM,GY2,HY,HU2,HUL2⟩
     case measure=>simp [intOf]; have:=HIN.out; omega

theorem Dhcl0 (args:Array Value) (w:World):(callFunc 65 args).run Tryz.prog w=.ok (.enter 65 args) w:=by kernel_rfl
theorem Dhcl1 (args:Array Value) (w:World):(callFunc 113 args).run Tryz.prog w=.ok (.enter 113 args) w:=by kernel_rfl
theorem Dhcl2 (args:Array Value) (w:World):(callFunc 114 args).run Tryz.prog w=.ok (.enter 114 args) w:=by kernel_rfl
abbrev key5 (e:En):Nat × Nat × Nat × List Nat × Nat:=(e.b,e.i,e.p,e.x,e.at_)
def pvL (T:List (List Nat)):List Nat→List Nat
 | []=>[]
 | a :: l=>l.foldl (fun y k=>Ma.mulN y (T.getD k [])) (T.getD a [])
theorem pvL_snoc {T:List (List Nat)} {l:List Nat} (h:1≤l.length) (k:Nat):pvL T (l++[k])=Ma.mulN (pvL T l) (T.getD k []):=by
 match l,h with
 | a :: l,_=>show (l++[k]).foldl _ _=_; rw [List.foldl_append]; rfl
theorem getD_pre {T T':List (List Nat)} (h:T <+: T') {k:Nat} (hk:∃ z,T[k]?=some z):T'.getD k []=T.getD k []:=by
 obtain ⟨z,hz⟩:=hk;rw [List.getD_eq_getElem?_getD,List.getD_eq_getElem?_getD,hz,pre_at h hz]
theorem pvL_mono {T T':List (List Nat)} (h:T <+: T') {l:List Nat} (hl:∀ k∈l,∃ z,T[k]?=some z):pvL T' l=pvL T l:=by
 match l,hl with
 | [],_=>rfl
 | a :: l,hl =>
  show l.foldl (fun y k=>Ma.mulN y (T'.getD k [])) (T'.getD a [])=l.foldl (fun y k=>Ma.mulN y (T.getD k [])) (T.getD a []);rw [getD_pre h (hl a (List.mem_cons_self ..))];have hl2:∀ k∈l,∃ z,T[k]?=some z:=fun k hk=>hl k (List.mem_cons_of_mem _ hk);clear hl;generalize T.getD a []=y0
  induction l generalizing y0 with
  | nil=>rfl
  | cons b l ih =>
   show l.foldl _ (Ma.mulN y0 (T'.getD b []))=l.foldl _ (Ma.mulN y0 (T.getD b []));rw [getD_pre h (hl2 b (List.mem_cons_self ..))];exact ih (fun k hk=>hl2 k (List.mem_cons_of_mem _ hk)) _
structure InsR (N:Nat) (gs:List (List Nat)) (S:List Stp) (T:List (List Nat)) (es:List En) (x:List Nat) (S':List Stp) (T':List (List Nat)) (es':List En):Prop where
 tb:Tb N gs S' T' es'
 pre:T <+: T'
 key:es.map key5 <+: es'.map key5
 mono:∀ i p u,Cm.idT N (trE es) i p=some u→Cm.idT N (trE es') i p=some u
 sd:Cm.Sd N (Cm.idT N (trE es')) N x
 bd:S'.length+es.length*(2*N+2)≤S.length+es'.length*(2*N+2)
theorem InsR.same {N:Nat} {gs:List (List Nat)} (hg:∀ s∈gs,Cm.Gd N s) {S:List Stp} {T:List (List Nat)} {es:List En} {x:List Nat} (h:Tb N gs S T es) (hx:Cm.Gr N (·∈gs) x) (hA:¬ (Cm.sfP N (Cm.idT N (trE es)) N x).1<N):InsR N gs S T es x S T es :=
 ⟨h,List.prefix_rfl,List.prefix_rfl,fun _ _ _=>id,h.same hg hx hA,Nat.le_refl _⟩
structure IvR (N:Nat) (gs:List (List Nat)) (S:List Stp) (T:List (List Nat)) (es:List En) (m:Nat) (x:List Nat) (U:List En) (k:Nat) (S1:List Stp) (T1:List (List Nat)) (es1:List En) (parts1:List Nat):Prop where
 tb:Tb N gs S1 T1 es1
 pre:T <+: T1
 tr:trE es1=trE es
 key:es1.map key5=es.map key5
 sl:S1.length≤S.length+k
 pl:parts1.length=m+k
 pa:∀ j∈parts1,∃ z,T1[j]?=some z
 pv:pvL T1 parts1=(U.take k).foldl (fun y e=>Ma.mulN y (Ma.invN e.x)) x
theorem key5_mem {es es1:List En} (h:es1.map key5=es.map key5) {e:En} (he:e∈es):∃ e1∈es1,e1.b=e.b∧e1.x=e.x:=by
 have h1:key5 e∈es1.map key5:=by rw [h]; exact List.mem_map_of_mem he
 obtain ⟨e1,h2,h3⟩:=List.mem_map.1 h1;simp only [key5,Prod.mk.injEq] at h3;exact ⟨e1,h2,h3.1,h3.2.2.2.1⟩
theorem IvR.step {N:Nat} {gs:List (List Nat)} {S:List Stp} {T:List (List Nat)} {es:List En} {m:Nat} (hm:1≤m) {x:List Nat} {U:List En} {k:Nat} {S1:List Stp} {T1:List (List Nat)} {es1:List En} {parts1:List Nat} (h:IvR N gs S T es m x U k S1 T1 es1 parts1) {e:En} (he:U[k]?=some e)
  {S2:List Stp} {T2:List (List Nat)} {es2:List En} {j:Nat} (hj:T2[j]?=some (Ma.invN e.x)) (hT:T1 <+: T2) (hS:S2.length≤S1.length+1) (htb:Tb N gs S2 T2 es2) (htr:trE es2=trE es1) (hk:es2.map key5=es1.map key5):IvR N gs S T es m x U (k+1) S2 T2 es2 (parts1++[j]):=by
 obtain ⟨hkl,he2⟩:=List.getElem?_eq_some_iff.1 he;have hsl:=h.sl;have hpl:=h.pl;refine ⟨htb,h.pre.trans hT,htr.trans h.tr,hk.trans h.key,by omega,by rw [List.length_append,hpl]; rfl,fun q hq=>?_,?_⟩
 ·rcases List.mem_append.1 hq with hq | hq
  ·obtain ⟨z,hz⟩:=h.pa q hq
   exact ⟨z,pre_at hT hz⟩
  ·rw [List.mem_singleton] at hq; subst hq; exact ⟨_,hj⟩
 ·rw [pvL_snoc (by omega),pvL_mono hT h.pa,h.pv,List.take_succ_eq_append_getElem hkl,List.foldl_append,he2,List.getD_eq_getElem?_getD,hj]
  rfl
theorem IvR.put {N:Nat} {gs:List (List Nat)} (hg:∀ s∈gs,Cm.Gd N s) {S:List Stp} {T:List (List Nat)} {es:List En} {m:Nat} {x:List Nat} {U:List En} {S1:List Stp} {T1:List (List Nat)} {es1:List En} {parts1:List Nat} (h:IvR N gs S T es m x U U.length S1 T1 es1 parts1) (hU:U.length≤N) (hm:m≤2) (hgx:Cm.Gr N (·∈gs) x)
  {i:Nat} {y:List Nat} (hA:Cm.sfP N (Cm.idT N (trE es)) N x=(i,y)) (hi:i<N) {S2:List Stp} {T2:List (List Nat)} {n a:Nat} (hn:n+1=parts1.length) (hS2:S2.length=S1.length+n) (hMk:Mk N gs S2 T2) (hT:T1 <+: T2) (ha:T2[a]?=some y) (b:Nat) :
  InsR N gs S T es x S2 T2 (es1++[⟨b,i,Cm.ap y i,y,a,-1⟩]):=by
 have hA1:Cm.sfP N (Cm.idT N (trE es1)) N x=(i,y):=by rw [h.tr]; exact hA
 obtain ⟨q1,q2,q3⟩:=(h.tb.grow hMk hT).put hg hgx hA1 hi (b:=b) ha
 have hl:es1.length=es.length:=by have:=congrArg List.length h.key; simpa using this
 have hpl:=h.pl;have hsl:=h.sl;refine ⟨q1,h.pre.trans hT,?_,by rw [← h.tr]; exact q2,q3,?_⟩
 ·rw [List.map_append,h.key]; exact ⟨_,rfl⟩
 ·rw [List.length_append,hl,List.length_singleton,Nat.add_mul]
  omega
theorem usE_fnd {es:List En} {N:Nat} {S:List Stp} {T gs:List (List Nat)} (h:Tb N gs S T es) {x y:List Nat} (gx:Cm.Gd N x) {i:Nat} (hA:Cm.sfP N (Cm.idT N (trE es)) N x=(i,y)) (hi:i<N):fnd es i (Cm.ap y i)=none:=by
 obtain ⟨a1,_,a3,a4,a5⟩:=Cm.sfP_all h.ok.rp (Nat.le_refl N) (by omega) gx (fun j hj=>absurd hj (by omega));rw [hA] at a5;have a5:=a5 hi
 have hne:Cm.ap y i≠i:=fun e=>by rw [e,Cm.idT_self] at a5; cases a5
 rw [idT_at hne] at a5;exact Option.map_eq_none_iff.1 a5
theorem fnd_tr {es es1:List En} (h:trE es1=trE es) {i p:Nat} (hn:fnd es i p=none):fnd es1 i p=none:=by
 have:=congrFun (congrFun h i) p;unfold trE at this;rw [hn] at this;exact Option.map_eq_none_iff.1 this
theorem Gw.trans_or {F M F1 M1 F2 M2 P:Nat→Prop} {w w1 w2:World} (h:Gw F M w F1 (fun k=>M1 k∨P k) w1) (h':Gw F1 M1 w1 F2 M2 w2):Gw F M w F2 (fun k=>M2 k∨P k) w2:=by
 have hs:=h.kp.size;refine ⟨h.kg.trans h'.kg,Rg.Kp.trans h.kp h'.kp (fun k hk hm=>?_),fun k hk=>?_,fun k hk=>?_⟩
 ·rcases h.nM k (.inl hm) with e | e
  ·exact e
  ·omega
 ·rcases h'.nF k hk with e | e
  ·exact h.nF k e
  ·exact .inr (by omega)
 ·rcases hk with hk | hk
  ·rcases h'.nM k hk with e | e
   ·exact h.nM k (.inl e)
   ·exact .inr (by omega)
  ·exact h.nM k (.inr hk)
theorem Gw.put_or {F M F1 M1 P P2:Nat→Prop} {w w1 w2:World} (h:Gw F M w F1 (fun k=>M1 k∨P k) w1) (hk:Rg.Kp P w1 w2) (hF:∀ k,F1 k→¬ P k) (hP:∀ k,P2 k→P k∨w1.heap.size≤k):Gw F M w F1 (fun k=>M1 k∨P2 k) w2:=by
 have hs:=h.kp.size;refine ⟨h.kg.kf' (hk.weak fun k hp hf=>hF k hf hp),Rg.Kp.trans h.kp hk (fun k hk hp=>?_),h.nF,fun k hk=>?_⟩
 ·rcases h.nM k (.inr hp) with e | e
  ·exact e
  ·omega
 ·rcases hk with hk | hk
  ·exact h.nM k (.inl hk)
  ·rcases hP k hk with e | e
   ·exact h.nM k (.inr e)
   ·exact .inr (by omega)
theorem Gw.less {F M F1 M1 M2:Nat→Prop} {w w1:World} (h:Gw F M w F1 M1 w1) (hM:∀ k,M2 k→M1 k):Gw F M w F1 M2 w1:=⟨h.kg,h.kp,h.nF,fun k hk=>h.nM k (hM k hk)⟩
theorem rdv_of {M:Nat→Prop} {W:World} {B:Nat} {e:TypeId} {v:Value} {n:Nat} {us:List Value} (h:W.ownsRow B e 1 v n us) (hM:∀ k,v.ownBlock=some k→¬ M k):∃ a c,v=.slice a n c∧RdV M W a us:=by
 have hl:us.length=n:=by have:=h.1; omega
 obtain ⟨a,c,hs⟩:=Rg.row_shape h;subst hs;refine ⟨a,c,rfl,fun h0=>?_⟩;obtain ⟨g,c',u,e1,e2,e3,e4⟩:=row_of h (k:=0) (by omega);simp only [Value.slice.injEq,true_and] at e1;obtain ⟨rfl,rfl⟩:=e1;refine ⟨g,0,rfl,e4,hM g rfl,fun i hi=>?_⟩;obtain ⟨g',c',u,e1,e2,e3,e4⟩:=row_of h (k:=i) (by omega);simp only [Value.slice.injEq,Option.some.injEq,Addr.mk.injEq,and_true,true_and] at e1;obtain ⟨rfl,rfl⟩:=e1;rw [e2,← e3,List.getElem?_eq_getElem hi]
abbrev RdF (F:Nat→Prop) (W:World) (ad:Option Addr) (us:List Value):Prop:=RdV (fun z=>¬ F z) W ad us
theorem RdF.kf {F:Nat→Prop} {w w':World} {ad:Option Addr} {us:List Value} (h:RdF F w ad us) (hk:KF F w w'):RdF F w' ad us:=RdV.kp h hk (fun _ _ e=>e) (fun _ _ e=>e)
theorem RdF.kg {F F':Nat→Prop} {w w':World} {ad:Option Addr} {us:List Value} (h:RdF F w ad us) (hk:KG F w F' w'):RdF F' w' ad us:=RdV.kp h hk.kf (fun _ _ e=>e) (fun k _ e h=>e (hk.sub k h))
theorem RdF.up {F:Nat→Prop} {w w':World} {ad:Option Addr} {us:List Value} (h:RdF F w ad us) (hb:Below w.heap.size w w'):RdF (Fup F w w') w' ad us:=RdV.kp (N:=fun _=>False) h (Rg.Kp.of_below hb) (fun _ _=>False.elim) (fun k _ e h=>e (.inl h))
def SiQ (B:Nat) (F:Nat→Prop) (tb mb N:Nat) (S:List Stp) (nx:Nat) (es:List En) (sv lv:Value) (U:List En) (A:Nat × List Nat) (w:World) (ed:Ending) (w':World):Prop :=
 ∃ (F':Nat→Prop) (ua:Option Addr) (uc:Nat) (rv:Value) (x y:Int),ed=.returned (.tuple #[.slice ua U.length uc,rv,.agg #[.int .i64 x,.int .i64 y],.bool (decide (A.1<N))])∧(A.1<N→x=((A.1:Nat):Int)∧y=((Cm.ap A.2 A.1:Nat):Int)) ∧
  TbM B F' tb mb N w' S nx es es es sv lv∧(∀ M,Gw F M w F' M w')∧RdF F' w' ua (U.map enP)∧FP F' w' rv A.2
theorem sift_q {B:Nat} {F0:Nat→Prop} {tb mb N:Nat} {w:World} {gs:List (List Nat)} {S:List Stp} {T:List (List Nat)} {nx:Nat} {es:List En} {sv lv:Value} (hp:Tb N gs S T es) (h:TbM B F0 tb mb N w S nx es es es sv lv) (hn1:1≤N) (hn2:N≤64) {xv:Value} {x:List Nat} (hx:FP F0 w xv x) (gx:Cm.Gd N x) :
  Calls Tryz.prog 65 #[.pointer (some ⟨tb,0,none⟩),xv] w (SiQ B F0 tb mb N S nx es sv lv (usE es N N x) (Cm.sfP N (Cm.idT N (trE es)) N x) w):=by
 have hM:=h.Mlt;refine (sift_t hp h hn1 hn2 hx gx).mono ?_;rintro e w' ⟨F',uv,rv,x9,y9,rfl,h1,h2,h3,h4,h5,h6,h7⟩;have hlt:∀ k,uv.ownBlock=some k→w.heap.size≤k∧k<w'.heap.size:=fun k e=>World.ownsRow.lt h5 k e;obtain ⟨ua,uc,hs,hr⟩:=rdv_of (M:=fun z=>¬ (fun z=>F' z∨uv.ownBlock=some z) z) h5 (fun k e h=>h (.inr e))
 have hg:∀ M,Gw F0 M w (fun z=>F' z∨uv.ownBlock=some z) M w':=fun M=>by
  have g:=h3 M;refine ⟨⟨fun k hk=>.inl (g.kg.sub k hk),fun k hk=>hk.elim (g.kg.lt k) (fun e=>(hlt k e).2),g.kg.kf⟩,g.kp,fun k hk=>hk.elim (g.nF k) (fun e=>.inr (hlt k e).1),g.nM⟩
 have ht:TbM B (fun z=>F' z∨uv.ownBlock=some z) tb mb N w' S nx es es es sv lv:=h2.mono (fun k=>.inl) (fun k hk=>hk.elim (h2.Flt k) (fun e=>(hlt k e).2)) (fun k hk hm=>hk.elim (fun e=>h2.nF k e hm) (fun e=>by
  have:=(hlt k e).1;have:=hM k hm
  omega))
 have hfp:FP (fun z=>F' z∨uv.ownBlock=some z) w' rv (Cm.sfP N (Cm.idT N (trE es)) N x).2:=h7.mono fun k=>.inl;generalize (fun z=>F' z∨uv.ownBlock=some z)=F2 at *;subst hs;exact ⟨F2,ua,uc,rv,x9,y9,rfl,h1,ht,hg,hr,hfp⟩
theorem RdV.up {M:Nat→Prop} {w w':World} {ad:Option Addr} {us:List Value} (h:RdV M w ad us) (hb:Below w.heap.size w w'):RdV M w' ad us:=h.below hb
theorem run_sliceN1 (b o m c:Nat) (h:m≤c):∃ ca:Addr,(∀ w:World,(Instr.sliceAt 25 (.slice (some ⟨b,o,none⟩) (m+1) (c+1)) (some (.int .i64 1)) none none).run Tryz.prog w=.ok (.slice (some ca) m c) w)∧(0<m→ca=⟨b,o+1,none⟩):=by
 by_cases e:c=0
 ·refine ⟨⟨b,o,none⟩,fun w=>?_,fun h=>by omega⟩
  obtain rfl:m=0:=by omega
  subst e;simp [Instr.sliceAt,Instr.slice,run_underlying Tryz.underlying25,Instr.sliceBounds,Instr.sliceBound,asIntOf,Addr.add]
 ·refine ⟨⟨b,o+1,none⟩,fun w=>?_,fun _=>rfl⟩
  simp [Instr.sliceAt,Instr.slice,run_underlying Tryz.underlying25,Instr.sliceBounds,Instr.sliceBound,asIntOf,Addr.add,e];intro hh;omega
theorem RwI.split {F M:Nat→Prop} {W:World} {v:Value} {a:Nat} {l:List Nat} (h:RwI F M W v ((a :: l).map fun k:Nat=>((k:Nat):Int))):∃ g c ca,v=.slice (some ⟨g,0,none⟩) (l.length+1) (c+1)∧W.cell? ⟨g,0+0,none⟩=some (.int .i64 ((a:Nat):Int))∧g<W.heap.size ∧
  (∀ w:World,(Instr.sliceAt 25 (.slice (some ⟨g,0,none⟩) (l.length+1) (c+1)) (some (.int .i64 1)) none none).run Tryz.prog w=.ok (.slice (some ca) l.length c) w)∧RdV M W (some ca) (l.map fun k:Nat=>Value.int .i64 ((k:Nat):Int)):=by
 obtain ⟨B,h0,h1⟩:=h.own
 have hlen:((a :: l).map fun k:Nat=>((k:Nat):Int)).length=l.length+1:=by simp
 rw [hlen] at h1;obtain ⟨g,c0,u,e1,e2,e3,e4⟩:=row_of h1 (k:=0) (by omega)
 have hu:u=.int .i64 ((a:Nat):Int):=by
  rw [List.map_cons,List.map_cons,List.getElem?_cons_zero] at e3;exact (Option.some.inj e3).symm
 have hcap:l.length+1≤c0:=by
  obtain ⟨q1,q2⟩:=h1
  rcases q2 with ⟨q3,_⟩ | ⟨g',cap,cur,q3,_,_,q4,_⟩
  ·rw [q3] at e1; simp at e1
  ·rw [q3] at e1
   simp only [Value.slice.injEq,true_and] at e1;omega
 obtain ⟨c,rfl⟩:∃ c,c0=c+1:=⟨c0 - 1,by omega⟩;obtain ⟨ca,r1,r2⟩:=run_sliceN1 g 0 l.length c (by omega);refine ⟨g,c,ca,e1,by rw [e2,hu],e4,r1,fun hl=>?_⟩;rw [List.length_map] at hl;refine ⟨g,0+1,by rw [r2 hl],e4,(h.off g (by rw [e1]; rfl)).2.1,fun i hi=>?_⟩;rw [List.length_map] at hi;obtain ⟨g',c',u',f1,f2,f3,f4⟩:=row_of h1 (k:=i+1) (by omega);rw [e1] at f1;simp only [Value.slice.injEq,Option.some.injEq,Addr.mk.injEq,and_true,true_and] at f1;obtain ⟨rfl,_⟩:=f1;rw [show 0+1+i=0+(i+1) by omega,f2,← f3,List.map_cons,List.map_cons,List.getElem?_cons_succ,List.getElem?_map,List.getElem?_map,List.getElem_map,List.getElem?_eq_getElem hi];rfl
theorem Pw.fresh (W:World) (x y:Int):∃ W2,(storeVar 106 ⟨W.heap.size,0,none⟩ (.agg #[.int .i64 x,.int .i64 y])).run Tryz.prog (W.alloc (.cells #[.int .i64 0,.int .i64 0] 106))=.ok () W2∧Pw W2 W.heap.size x y∧Below W.heap.size W W2 :=
 ⟨_,(Pw.new W).run x y,(Pw.new W).set x y,(((Below.refl _ _).alloc (Nat.le_refl _) _).setCell (p:=⟨W.heap.size,0,none⟩) (Nat.le_refl _) _).setCell (p:=⟨W.heap.size,1,none⟩) (Nat.le_refl _) _⟩
def InP (B:Nat) (F:Nat→Prop) (tb mb N:Nat) (gs:List (List Nat)) (S:List Stp) (T:List (List Nat)) (es:List En) (sv lv pv:Value) (x:List Nat) (w:World) (ed:Ending) (w':World):Prop :=
 ∃ (F':Nat→Prop) (sv' lv':Value) (S':List Stp) (T':List (List Nat)) (es':List En),ed=.returned (.tuple #[])∧InsR N gs S T es x S' T' es'∧TbM B F' tb mb N w' S' T'.length es' es' es' sv' lv'∧Gw F (fun k=>tbS tb mb es sv lv k∨pv.ownBlock=some k) w F' (tbS tb mb es' sv' lv') w'
theorem insert_t {B:Nat} {F0:Nat→Prop} {tb mb N:Nat} {w:World} {gs:List (List Nat)} {S:List Stp} {T:List (List Nat)} {es:List En} {sv lv:Value} (hg:∀ s∈gs,Cm.Gd N s) (hp:Tb N gs S T es) (h:TbM B F0 tb mb N w S T.length es es es sv lv) (hn1:1≤N) (hn2:N≤16) {xv:Value} {x:List Nat} (hx:FP F0 w xv x) (hgx:Cm.Gr N (·∈gs) x)
  {parts:List Nat} {pv:Value} (hpr:RwI F0 (tbS tb mb es sv lv) w pv (parts.map fun k:Nat=>((k:Nat):Int))) (hp1:1≤parts.length∧parts.length≤2) (hpa:∀ k∈parts,∃ z,T[k]?=some z) (hpv:pvL T parts=x) (hT:T.length<50000) :
  Calls Tryz.prog 91 #[.pointer (some ⟨tb,0,none⟩),xv,pv] w (InP B F0 tb mb N gs S T es sv lv pv x w):=by
 have gx:=(Cm.Gr.isG hg).gd x hgx;obtain ⟨pa0,pc0,hps⟩:=hpr.shape;subst hps;have HG:=ι hg;have HGX:=ι hgx;have HP:=ι hp;have HPA:=ι hpa;have HPV:=ι hpv;have HTL:=ι hT;have HPL:=ι hp1;have GX:=ι gx;have HFW:=ι hp.few;obtain ⟨A,hA⟩:∃ A,Hid (Cm.sfP N (Cm.idT N (trE es)) N x=A):=⟨_,ι rfl⟩;obtain ⟨U,hU⟩:∃ U,Hid (usE es N N x=U):=⟨_,ι rfl⟩;obtain ⟨ul,hul⟩:∃ n,Hid (U.length=n):=⟨_,ι rfl⟩;obtain ⟨fb,hfb⟩:∃ b,Hid (decide (A.1<N)=b):=⟨_,ι rfl⟩;have HUV:=ι (show A.2=U.foldl (fun y e=>Ma.mulN y (Ma.invN e.x)) x by rw [← hA.out,← hU.out]; exact usE_val (fun e he=>(hp.en e he).gd) (Nat.le_refl _) gx);have HUL:=ι (show U.length≤N by rw [← hU.out]; exact usE_len _ _ _ _);have HUM:=ι (show ∀ e∈U,e∈es from fun e he=>by rw [← hU.out] at he; exact usE_mem he);have K:=ι (Gw.refl (M:=fun k=>tbS tb mb es sv lv k∨(Value.slice pa0 (parts.map fun k:Nat=>((k:Nat):Int)).length pc0).ownBlock=some k) h.Flt)
 have hb:Below w.heap.size w (w.alloc (.cells #[.pointer (some ⟨tb,0,none⟩)] 98)):=(Below.refl _ _).alloc (Nat.le_refl _) _;have TM:=ι (h.up hb);replace K:=ι (K.out.up hb);have RW:=ι (hpr.up hb);have X:=ι (hx.up hb);have C:=ι (show CF (Fup F0 w (w.alloc (.cells #[.pointer (some ⟨tb,0,none⟩)] 98))) (w.alloc (.cells #[.pointer (some ⟨tb,0,none⟩)] 98)) w.heap.size 0 (.pointer (some ⟨tb,0,none⟩)) from ⟨by rw [Rg.cellNew]; rfl,.inr ⟨Nat.le_refl _,by simp⟩,by simp⟩);obtain ⟨tp,htp⟩:∃ b,b=w.heap.size:=⟨_,rfl⟩;clear hg hgx hp hpa hpv hT hp1 gx h hx hpr hb
 go_enter Tryz.func91,Tryz.ntmps91
 go_upto_region 0 with (fail);refine Rg.wl ?_;refine Rg.lr 3 (exec_boxV (v:=.pointer (some ⟨tb,0,none⟩)) _ _ rfl rfl rfl) ?_;go_frame;generalize Fup F0 w (w.alloc (.cells #[.pointer (some ⟨tb,0,none⟩)] 98))=F1 at *;rw [← htp] at C;generalize w.alloc (.cells #[.pointer (some ⟨tb,0,none⟩)] 98)=w0 at *;rw [← htp];clear htp;go_upto_region 1 with (fail);refine Rg.wl ?_;refine Rg.lr 15 (Rg.exec_load (v:=.pointer (some ⟨tb,0,none⟩)) _ _ rfl ⟨tp,0,none⟩ rfl (Rg.run_loadPtr _ _ Tryz.underlying98 C.out.cell)) ?_;go_frame;refine Rg.lm 16 (xv) ?_;go_frame;refine Rg.lk 17 (exec_fn 65 _ _ _ rfl rfl rfl (Dhcl0 _ _)) ?_;refine (sift_q HP.out TM.out hn1 (by omega) X.out GX.out).mono ?_;rintro e1 w1 ⟨F9,ua,uc,rv9,x9,y9,rfl,hxy9,hT9,hgm9,hud9,hr9⟩;rw [hU.out] at hud9 ⊢;rw [hul.out,hA.out];rw [hA.out] at hxy9 hr9;rw [hfb.out];have hg9:=hgm9 (tbS tb mb es sv lv);have hg9x:=hgm9 (fun k=>tbS tb mb es sv lv k∨(Value.slice pa0 (parts.map fun k:Nat=>((k:Nat):Int)).length pc0).ownBlock=some k)
 have nTM:=hT9;have nRW:=RW.out.gw hg9;have nC:=C.out.kg hg9.kg;refine ⟨_,rfl,?_⟩;go_frame;clear X;replace TM:=ι nTM;replace RW:=ι nRW;replace C:=ι nC;replace K:=ι (K.out.trans hg9x);have RV:=ι hr9;have UD:=ι hud9;clear hg9x nTM nRW nC;refine Rg.lm 14 (.tuple #[.slice ua ul uc,rv9,(.agg #[.int .i64 x9,.int .i64 y9]),.bool fb]) ?_;go_frame;refine Rg.lr 18 (exec_extract (v:=.slice ua ul uc) _ _ rfl rfl rfl) ?_;go_frame;refine Rg.lr 19 (exec_extract (v:=rv9) _ _ rfl rfl rfl) ?_;go_frame;refine Rg.lr 20 (exec_extract (v:=(.agg #[.int .i64 x9,.int .i64 y9])) _ _ rfl rfl rfl) ?_;go_frame;refine Rg.lr 21 (exec_extract (v:=.bool fb) _ _ rfl rfl rfl) ?_;go_frame;obtain ⟨W2,hst,hpw,hb9⟩:=Pw.fresh w1 x9 y9;refine Rg.lr 8 (exec_allocP2 rfl) ?_;go_frame;refine Rg.la 6 (.slice ua ul uc) ?_;go_frame;refine Rg.la 7 (rv9) ?_;go_frame;refine Rg.list_skip none rfl rfl (Rg.exec_store _ _ _ rfl _ rfl _ rfl hst) ?_;go_frame
 refine Rg.la 9 (.bool fb) ?_;go_frame;have AB0:=ι (show CF (Fup F9 w1 W2) W2 w1.heap.size 0 (.int .i64 x9) from ⟨hpw.c0.c,.inr ⟨Nat.le_refl _,hpw.c0.lt⟩,hpw.c0.lt⟩);have AB1:=ι (show CF (Fup F9 w1 W2) W2 w1.heap.size 1 (.int .i64 y9) from ⟨hpw.c1.c,.inr ⟨Nat.le_refl _,hpw.c1.lt⟩,hpw.c1.lt⟩);clear hgm9 hst hpw hr9 hud9;have HXY:=ι hxy9;clear hxy9;obtain ⟨ab,hab⟩:∃ b,b=w1.heap.size:=⟨_,rfl⟩;rw [← hab] at AB0 AB1 ⊢;clear hab;replace TM:=ι (TM.out.up hb9);replace RW:=ι (RW.out.up hb9);replace C:=ι (C.out.up hb9);replace RV:=ι (RV.out.up hb9);replace UD:=ι (UD.out.up hb9);replace K:=ι (K.out.up hb9);generalize Fup F9 w1 W2=F2 at *;clear hb9
 cases fb with
 | false =>
  go_upto_region 2 with (fail);refine Rg.wl ?_;refine Rg.lm 22 (.bool false) ?_;go_frame;refine Rg.lr 23 (exec_not _ _ false rfl rfl) ?_;go_frame;have HNO:=ι (show ¬ (Cm.sfP N (Cm.idT N (trE es)) N x).1<N by rw [hA.out]; exact of_decide_eq_false hfb.out);go_wp2
  first
  | go_end0
  | refine bodyPost_ret (results_none rfl _ _ _) rfl ?_
  exact ⟨_,_,_,_,_,_,rfl,InsR.same HG.out HP.out HGX.out HNO.out,TM.out,K.out.less fun k=>.inl⟩
 | true =>
  have HLT:=ι (of_decide_eq_true hfb.out);have HX9:=ι (HXY.out HLT.out);obtain ⟨i0,hi0⟩:∃ i,Hid (A.1=i):=⟨_,ι rfl⟩;obtain ⟨y0,hy0⟩:∃ y,Hid (A.2=y):=⟨_,ι rfl⟩;have HAI:=ι (show A=(i0,y0) by rw [← hi0.out,← hy0.out]);have HIN:=ι (show i0<N by rw [← hi0.out]; exact HLT.out)
  have hxe:x9=((i0:Nat):Int):=by rw [← hi0.out]; exact HX9.out.1
  have hye:y9=((Cm.ap y0 i0:Nat):Int):=by rw [← hi0.out,← hy0.out]; exact HX9.out.2
  rw [hxe] at AB0;rw [hye] at AB1;rw [hy0.out] at RV
  have GY:=ι (show Cm.Gd N y0 by
   have:=(Cm.sfP_all HP.out.ok.rp (Nat.le_refl N) (by omega) GX.out (fun j hj=>absurd hj (by omega))).2.2.1
   rw [hA.out,HAI.out] at this; exact this)
  have HNF:=ι (show fnd es i0 (Cm.ap y0 i0)=none from usE_fnd HP.out GX.out (by rw [hA.out,HAI.out]) HIN.out);have HYV:=ι (show y0=U.foldl (fun y e=>Ma.mulN y (Ma.invN e.x)) x by rw [← HUV.out,hy0.out]);clear HX9 HXY hxe hye;obtain ⟨q0,hq0⟩:∃ q,Hid (Cm.ap y0 i0=q):=⟨_,ι rfl⟩;rw [hq0.out] at AB1 HNF;have IV:=ι (show IvR N gs S T es parts.length x U 0 S T es parts from ⟨HP.out,List.prefix_rfl,rfl,rfl,Nat.le_refl _,rfl,HPA.out,HPV.out⟩)
  have hul16:ul≤16:=by have:=HUL.out; have:=hul.out; omega
  go_upto_region 2 with (fail);refine Rg.wl ?_;refine Rg.lm 22 (.bool true) ?_;go_frame;refine Rg.lr 23 (exec_not _ _ true rfl rfl) ?_;go_frame;go_upto_region 3 with (fail);refine Rg.wl ?_;refine Rg.lm 24 (.slice ua ul uc) ?_;go_frame;refine Rg.lr 25 (exec_len _ _ _ rfl Tryz.underlying102 _ _ _ rfl) ?_;go_frame;refine Rg.lm 26 (.int .i64 ((0:Nat):Int)) ?_;go_frame;obtain ⟨rb,ro,rc,hrv⟩:=RV.out.shape' GY.out hn1;subst hrv;clear HAI;go_wp2
  go_loopw [2,26] (fun pvv iv wr=>∃ (k:Nat) (F1:Nat→Prop) (sv1:Value) (S1:List Stp) (T1:List (List Nat)) (es1:List En) (parts1:List Nat),iv=.int .i64 ((k:Nat):Int)∧k≤ul∧Hid (IvR N gs S T es parts.length x U k S1 T1 es1 parts1)∧Hid (TbM B F1 tb mb N wr S1 T1.length es1 es1 es1 sv1 lv) ∧
   Hid (Gw F0 (fun k=>tbS tb mb es sv lv k∨(Value.slice pa0 (parts.map fun k:Nat=>((k:Nat):Int)).length pc0).ownBlock=some k) w F1 (fun k=>tbS tb mb es1 sv1 lv k∨pvv.ownBlock=some k) wr)∧Hid (RwI F1 (tbS tb mb es1 sv1 lv) wr pvv (parts1.map fun k:Nat=>((k:Nat):Int)))∧Hid (CF F1 wr tp 0 (.pointer (some ⟨tb,0,none⟩)))∧Hid (FP F1 wr (.slice (some ⟨rb,ro,none⟩) N rc) y0)∧Hid (RdF F1 wr ua (U.map enP))∧Hid (CF F1 wr ab 0 (.int .i64 ((i0:Nat):Int)))∧Hid (CF F1 wr ab 1 (.int .i64 ((q0:Nat):Int)))) (fun _ iv _=>ul - (intOf iv).toNat)
  case atStart=>exact ⟨0,_,sv,S,T,es,parts,rfl,Nat.zero_le _,IV,TM,K,RW,C,RV,UD,AB0,AB1⟩
  case round =>
   clear IV TM K RW C RV UD AB0 AB1;obtain ⟨k,F1,sv1,S1,T1,es1,parts1,rfl,hk,IV,TM,K,RW,C,RV,UD,AB0,AB1⟩:=hrel;obtain ⟨pa1,pc1,hps⟩:=RW.out.shape;subst hps
   have HT1:=ι (show T1.length≤50020∧S1.length<100000∧parts1.length≤20 by
    have a1:=IV.out.tb.sk.len;have a2:=HP.out.sk.len;have a3:=IV.out.sl;have a4:=IV.out.pl;have a5:=HPL.out;have a6:=HTL.out
    omega)
   by_cases hkl:k<ul
   case pos =>
    have HKL:=ι hkl
    have hkU:k<U.length:=by rw [hul.out]; exact hkl
    obtain ⟨ug,uo,e1,hg,-,hc⟩:=UD.out (by rw [List.length_map]; omega);subst e1;obtain ⟨e,he⟩:∃ e,Hid (U[k]'hkU=e):=⟨_,ι rfl⟩;have hc:=hc k (by rw [List.length_map]; exact hkU);rw [List.getElem_map,he.out] at hc;have CX:=ι (CL.mk hc hg);have HUK:=ι (show U[k]?=some e by rw [List.getElem?_eq_getElem hkU,he.out]);have HEB:=ι (key5_mem IV.out.key (HUM.out e (he.out▸List.getElem_mem hkU)));clear hc hg;go_upto_region 4 with (fail);refine Rg.wl ?_;refine Rg.lr 27 (exec_bin (R:=.bool true) .lss _ _ _ rfl rfl rfl (b_lss _ Rg.dT)) ?_;go_frame;go_upto_region 5 with (fail);refine Rg.wl ?_;refine Rg.lr 28 (exec_indexS slEnts _ _ rfl ug (uo) (ul) uc (k) rfl rfl HKL.out) ?_;go_frame;refine Rg.lr 29 (Rg.exec_load (v:=.pointer (some ⟨e.b,0,none⟩)) _ _ rfl ⟨ug,uo+k,none⟩ rfl (Rg.run_loadPtr _ _ Tryz.underlying110 CX.out.cell)) ?_;go_frame;refine Rg.la 11 (.pointer (some ⟨e.b,0,none⟩)) ?_;go_frame
    go_upto_region 6 with (fail);refine Rg.wl ?_;refine Rg.lm 30 (.slice pa1 (parts1.map fun k:Nat=>((k:Nat):Int)).length pc1) ?_;go_frame;refine Rg.lr 31 (Rg.exec_load (v:=.pointer (some ⟨tb,0,none⟩)) _ _ rfl ⟨tp,0,none⟩ rfl (Rg.run_loadPtr _ _ Tryz.underlying98 C.out.cell)) ?_;go_frame;refine Rg.lm 32 (.pointer (some ⟨e.b,0,none⟩)) ?_;go_frame;refine Rg.lk 33 (exec_fn 113 _ _ _ rfl rfl rfl (Dhcl1 _ _)) ?_;refine (inverse_any IV.out.tb TM.out HEB.out (by have:=HT1.out; omega)).mono ?_;rintro e1 w32 ⟨F9,sv9,S9,T9,es9,j9,rfl,hj9,hpre9,hsl9,htb9,htr9,hk9,hT9,hg9⟩;replace IV:=ι (IV.out.step HPL.out.1 HUK.out hj9 hpre9 hsl9 htb9 htr9 hk9);have hg9x:=hg9;have nTM:=hT9;have nRW:=RW.out.gw hg9;have nC:=C.out.kg hg9.kg;have nRV:=RV.out.kg hg9.kg;have nUD:=RdF.kg UD.out hg9.kg;have nAB0:=AB0.out.kg hg9.kg;have nAB1:=AB1.out.kg hg9.kg;refine ⟨_,rfl,?_⟩
    go_frame;replace TM:=ι nTM;replace RW:=ι nRW;replace C:=ι nC;replace RV:=ι nRV;replace UD:=ι nUD;replace AB0:=ι nAB0;replace AB1:=ι nAB1;replace K:=ι (K.out.trans_or hg9x);clear hg9x nTM nRW nC nRV nUD nAB0 nAB1;obtain ⟨a8,c8,X8,r8,hR8,hk8,ho8⟩:=RW.out.push TM.out.Flt TM.out.Mlt ((j9:Nat):Int) (by rw [List.length_map]; have:=HT1.out; omega) 25;refine Rg.lr 34 (Rg.exec_buildSlice _ _ _ rfl (.int .i64 ((j9:Nat):Int)) rfl (run_build1N w32 _)) ?_;go_frame;refine Rg.lr 35 (Rg.exec_append _ _ _ rfl rfl rfl r8) ?_;go_frame;refine Rg.lr 2 (Rg.exec_assign (v:=.slice a8 ((parts1.map fun k:Nat=>((k:Nat):Int)).length+1) c8) _ rfl rfl) ?_;go_frame;have hF8:∀ z,F9 z→¬ (Value.slice pa1 (parts1.map fun k:Nat=>((k:Nat):Int)).length pc1).ownBlock=some z:=fun z h1 h2=>(RW.out.off z h2).1 h1;have hM8:∀ z,(Value.slice pa1 (parts1.map fun k:Nat=>((k:Nat):Int)).length pc1).ownBlock=some z→¬ tbS tb mb es9 sv9 lv z:=fun z h1=>(RW.out.off z h1).2.1
    have hkf8:KF F9 _ X8:=hk8.weak fun z h1 h2=>hF8 z h2 h1;replace TM:=ι (TM.out.kp hk8 hM8 hF8);replace K:=ι (K.out.put_or hk8 hF8 ho8);replace C:=ι (C.out.kf hkf8);replace RV:=ι (FP.kf RV.out hkf8);replace UD:=ι (RdF.kf UD.out hkf8);replace AB0:=ι (AB0.out.kf hkf8);replace AB1:=ι (AB1.out.kf hkf8)
    have hcast:(parts1.map fun k:Nat=>((k:Nat):Int))++[((j9:Nat):Int)]=(parts1++[j9]).map fun k:Nat=>((k:Nat):Int):=by rw [List.map_append]; rfl
    rw [hcast] at hR8;replace RW:=ι hR8;clear hk8 hF8 hM8 hkf8 hcast ho8 r8 CX HUK HEB;go_upto_region 7 with (fail);refine Rg.wl ?_;refine Rg.lr 36 (exec_bin (R:=.int .i64 (((k+1):Nat):Int)) .add _ _ _ rfl rfl rfl (b_add _ (by omega) (by omega))) ?_;go_frame;refine Rg.lm 26 (.int .i64 (((k+1):Nat):Int)) ?_;go_frame;go_wp2
    go_roundw
    case rel=>exact ⟨k+1,_,_,_,_,_,_,by go_num,HKL.out,IV,TM,K,RW,C,RV,UD,AB0,AB1⟩
    case measure=>simp [intOf]; have:=HKL.out; omega
   case neg =>
    have hke:k=ul:=by omega
    subst hke;have IVF:=ι (show IvR N gs S T es parts.length x U U.length S1 T1 es1 parts1 by rw [hul.out]; exact IV.out);have HYP:=ι (show pvL T1 parts1=y0 by rw [IVF.out.pv,List.take_of_length_le (Nat.le_refl _)]; exact HYV.out.symm);have HPA1:=ι IV.out.pa
    have hpl1:1≤parts1.length:=by have:=IV.out.pl; have:=HPL.out; omega
    obtain ⟨a1,l1,hp1⟩:∃ a l,parts1=a :: l:=by
     cases parts1 with
     | nil=>simp at hpl1
     | cons a l=>exact ⟨a,l,rfl⟩
    subst hp1;obtain ⟨pg,pc,ca,e1,hcell,hglt,hsl,hrd⟩:=RW.out.split
    have hlen:((a1 :: l1).map fun k:Nat=>((k:Nat):Int)).length=l1.length+1:=by simp
    rw [hlen] at e1 K ⊢;simp only [Value.slice.injEq,true_and] at e1;obtain ⟨rfl,rfl⟩:=e1;have RP:=ι hrd;have CP:=ι (CL.mk hcell hglt);have HSL:=ι hsl;obtain ⟨z1,hz1⟩:=HPA1.out a1 (List.mem_cons_self ..);have HZ1:=ι hz1;have HLN:=ι (show T1.length+l1.length<100000 by have:=HT1.out; simp at this; omega)
    have HYZ:=ι (show l1.foldl (fun y k=>Ma.mulN y (T1.getD k [])) z1=y0 by
     rw [← HYP.out];show _=l1.foldl _ (T1.getD a1 [])
     rw [List.getD_eq_getElem?_getD,hz1]; rfl)
    have HNF1:=ι (fnd_tr IV.out.tr HNF.out);clear hcell hglt hsl hrd hz1 hlen RW UD hpl1;go_upto_region 4 with (fail);refine Rg.wl ?_;refine Rg.lr 27 (exec_bin (R:=.bool false) .lss _ _ _ rfl rfl rfl (b_lss _ Rg.dF)) ?_;go_frame;have HCP:=ι ((show Below wr.heap.size wr wr.drew from (Below.refl _ _).drew).cell (p:=⟨pg,0+0,none⟩) CP.out.lt);go_upto_region 8 with (fail);have hV0:Below wr.heap.size wr wr.drew:=(Below.refl _ _).drew;replace TM:=ι (TM.out.up hV0);replace C:=ι (C.out.up hV0);replace RV:=ι (RV.out.up hV0);replace AB0:=ι (AB0.out.up hV0);replace AB1:=ι (AB1.out.up hV0);replace RP:=ι (RP.out.up hV0);replace K:=ι (K.out.up hV0);generalize Fup F1 wr wr.drew=F1 at *;clear hV0;refine Rg.Any.begin (S:=Rg.Both 6 (fun W:World=>W.cell? ⟨pg,0+0,none⟩=some (.int .i64 ((a1:Nat):Int))) (fun _=>True)) mix ?_;generalize wr.drew=w53 at *;have hS:∀ (l:Array Bool) W,(fun W:World=>W.cell? ⟨pg,0+0,none⟩=some (.int .i64 ((a1:Nat):Int))) W→Rg.Both 6 (fun W:World=>W.cell? ⟨pg,0+0,none⟩=some (.int .i64 ((a1:Nat):Int))) (fun _=>True) l W:=fun l W h=>⟨.inr h,trivial⟩
    have hS2:∀ (l:Array Bool) W,l.getD 6 false=true→Rg.Both 6 (fun W:World=>W.cell? ⟨pg,0+0,none⟩=some (.int .i64 ((a1:Nat):Int))) (fun _=>True) l W:=fun l W h=>⟨.inl h,trivial⟩;have hI:(fun W:World=>W.cell? ⟨pg,0+0,none⟩=some (.int .i64 ((a1:Nat):Int))) w53:=HCP.out.trans CP.out.cell;refine Rg.tm 0 6 (.slice (some ⟨pg,0,none⟩) (l1.length+1) (pc+1)) 37 (hS _ _ hI) ?_;go_frame;refine Rg.tg 1 6 ((.slice (some ca) l1.length pc)) 38 rfl rfl (.inl ⟨rfl,fun w _=>exec_slice1I (v:=.slice (some ⟨pg,0,none⟩) (l1.length+1) (pc+1)) _ rfl rfl (HSL.out _)⟩) (hS _ _ hI) ?_;go_frame;refine Rg.tm 2 6 (.slice (some ⟨pg,0,none⟩) (l1.length+1) (pc+1)) 39 (hS _ _ hI) ?_;go_frame;refine Rg.tg 3 6 (.pointer (some ⟨pg,0+0,none⟩)) 40 rfl rfl (Rg.yields_index slInts _ _ rfl rfl pg (0) ((l1.length+1)) (pc+1) (0) rfl rfl (by omega)) (hS _ _ hI) ?_;go_frame
    refine Rg.Any.takeT (i:=4) (t:=6) (v:=.int .i64 ((a1:Nat):Int)) (some 41) rfl rfl (by kernel_rfl) (by kernel_rfl) (by kernel_rfl) (fun _ _ _ h=>h) rfl (by kernel_rfl) rfl (Rg.yields_cell _ _ rfl rfl ⟨pg,0+0,none⟩ rfl (fun W hW=>run_loadInt hW)) (hS _ _ hI) ?_;go_frame;refine Rg.tg 5 6 ((.func (.func 115) #[] #[.pointer (some ⟨tp,0,none⟩)])) 42 rfl rfl (.inl ⟨rfl,fun w _=>exec_makeFunc 115 _ rfl rfl⟩) (hS _ _ hI) ?_;go_frame;refine Rg.Any.one (i:=6) (by kernel_rfl) (Rg.Any.ask (some 43) rfl rfl rfl _ _ (exec_fn3 114 _ _ _ _ rfl rfl rfl rfl (Dhcl2 _ _)) ?_);refine (foldTI_any (y0:=z1) IV.out.tb.sk TM.out C.out (fun k hk=>HPA1.out k (List.mem_cons_of_mem _ hk)) HZ1.out RP.out HLN.out).mono ?_;rintro e1 w54 ⟨F9,sv9,S9,T9,a9,rfl,ha9,hpre9,hsl9,hmk9,hae9,hT9,hg9⟩;rw [HYZ.out] at ha9;have HIR:=ι (fun b=>IVF.out.put HG.out HUL.out HPL.out.2 HGX.out (show Cm.sfP N (Cm.idT N (trE es)) N x=(i0,y0) by rw [hA.out,← hi0.out,← hy0.out]) HIN.out rfl hsl9 hmk9 hpre9 ha9 b)
    have hg9x:=hg9;have nTM:=hT9;have nC:=C.out.kg hg9.kg;have nRV:=RV.out.kg hg9.kg;have nAB0:=AB0.out.kg hg9.kg;have nAB1:=AB1.out.kg hg9.kg;have hI2_k:=trivial;clear hI;refine ⟨_,rfl,(hS2 _ _ rfl),?_⟩;go_frame;clear RP;replace TM:=ι nTM;replace C:=ι nC;replace RV:=ι nRV;replace AB0:=ι nAB0;replace AB1:=ι nAB1;replace K:=ι (K.out.trans_or hg9x);clear hg9x nTM nC nRV nAB0 nAB1;refine Rg.tg 7 6 (.int .i64 ((a9:Nat):Int)) 12 rfl rfl (.inl ⟨rfl,fun w _=>Rg.exec_assign (v:=.int .i64 ((a9:Nat):Int)) _ rfl rfl⟩) (hS2 _ _ rfl) ?_;go_frame;refine Rg.Any.done (by kernel_rfl) ?_ _;clear hS2;clear hS hI2_k;have HES:=ι (show es1.length≤1000 by have:=IV.out.tb.few; have h9:N*N≤16*16:=Nat.mul_le_mul hn2 hn2; omega);clear ha9 hpre9 hsl9 hmk9 hae9;go_upto_region 9 with (fail);refine Rg.wl ?_;refine Rg.lm 44 (.slice (some ⟨rb,ro,none⟩) N rc) ?_;go_frame
    refine Rg.lm 45 (.slice (some ⟨rb,ro,none⟩) N rc) ?_;go_frame;refine Rg.lk 46 (exec_fn1 45 _ _ rfl rfl (Bhcl0 _ _)) ?_;refine (fcInv_f RV.out GY.out hn1 (by omega)).mono ?_;rintro e1 w55 ⟨iv,rfl,hiv,hb⟩;obtain ⟨ib,io,ic,rfl⟩:=hiv.shape' (Cm.gd_inv GY.out) hn1;refine ⟨_,rfl,?_⟩;go_frame;replace TM:=ι (TM.out.up hb);replace C:=ι (C.out.up hb);replace RV:=ι (RV.out.up hb);replace AB0:=ι (AB0.out.up hb);replace AB1:=ι (AB1.out.up hb);replace K:=ι (K.out.up hb);have IV9:=ι hiv;generalize Fup F9 w54 w55=F2 at *;clear hb;refine Rg.lm 47 (.int .i64 ((a9:Nat):Int)) ?_;go_frame;refine Rg.lr 48 (exec_buildEn _ _ _ _ rfl rfl rfl rfl rfl) ?_;go_frame;obtain ⟨hT8,hq8⟩:=TM.out.box RV.out IV9.out i0 q0 a9 113;have hb8:Below w55.heap.size w55 (w55.alloc (.cells #[.slice (some ⟨rb,ro,none⟩) N rc,.slice (some ⟨ib,io,none⟩) N ic,.int .i64 ((a9:Nat):Int),.int .i64 (-1)] 113)):=(Below.refl _ _).alloc (Nat.le_refl _) _
    obtain ⟨eb,heb⟩:∃ b,b=w55.heap.size:=⟨_,rfl⟩;refine Rg.lr 49 (Rg.exec_box _ _ rfl rfl) ?_;go_frame;rw [← heb] at hT8 hq8 ⊢;refine Rg.la 13 (.pointer (some ⟨eb,0,none⟩)) ?_;go_frame;replace K:=ι (K.out.trans_or (TM.out.gw (Rg.Kp.of_below hb8) (fun q hq=>by rw [← heb]; exact hq8 q hq)));replace TM:=ι hT8;replace C:=ι (C.out.kf (KF.of_below hb8));replace AB0:=ι (AB0.out.kf (KF.of_below hb8));replace AB1:=ι (AB1.out.kf (KF.of_below hb8));clear hT8 hq8 hb8 RV IV9 heb;generalize w55.alloc (.cells #[.slice (some ⟨rb,ro,none⟩) N rc,.slice (some ⟨ib,io,none⟩) N ic,.int .i64 ((a9:Nat):Int),.int .i64 (-1)] 113)=W7 at *;have HIRb:=ι (HIR.out eb);rw [hq0.out] at HIRb;clear HIR;obtain ⟨e0,he0⟩:∃ e:En,Hid (⟨eb,i0,q0,y0,a9,-1⟩=e):=⟨_,ι rfl⟩;rw [he0.out] at HIRb TM K;have HP0:=ι (show enP e0=.pointer (some ⟨eb,0,none⟩) by rw [← he0.out]);have HK0:=ι (show Jm.keyV (e0.i,e0.p)=.agg #[.int .i64 ((i0:Nat):Int),.int .i64 ((q0:Nat):Int)] by rw [← he0.out]; rfl)
    have HN0:=ι (show fnd es1 e0.i e0.p=none by rw [← he0.out]; exact HNF1.out);go_upto_region 10 with (fail);have hV0:Below W7.heap.size W7 W7.drew:=(Below.refl _ _).drew;replace TM:=ι (TM.out.up hV0);replace C:=ι (C.out.up hV0);replace AB0:=ι (AB0.out.up hV0);replace AB1:=ι (AB1.out.up hV0);replace K:=ι (K.out.up hV0);generalize Fup F2 W7 W7.drew=F3 at *;clear hV0;refine Rg.Any.begin (S:=Rg.Both 6 (fun W:World=>W.cell? ⟨tp,0,none⟩=some (.pointer (some ⟨tb,0,none⟩))∧W.cell? ⟨tb,3,none⟩=some (.map (some mb))∧W.cell? ⟨ab,0,none⟩=some (.int .i64 ((i0:Nat):Int))∧W.cell? ⟨ab,1,none⟩=some (.int .i64 ((q0:Nat):Int))) (fun _=>True)) mix ?_;generalize W7.drew=w56 at *;have hS:∀ (l:Array Bool) W,(fun W:World=>W.cell? ⟨tp,0,none⟩=some (.pointer (some ⟨tb,0,none⟩))∧W.cell? ⟨tb,3,none⟩=some (.map (some mb))∧W.cell? ⟨ab,0,none⟩=some (.int .i64 ((i0:Nat):Int))∧W.cell? ⟨ab,1,none⟩=some (.int .i64 ((q0:Nat):Int))) W→Rg.Both 6 (fun W:World=>W.cell? ⟨tp,0,none⟩=some (.pointer (some ⟨tb,0,none⟩))∧W.cell? ⟨tb,3,none⟩=some (.map (some mb))∧W.cell? ⟨ab,0,none⟩=some (.int .i64 ((i0:Nat):Int))∧W.cell? ⟨ab,1,none⟩=some (.int .i64 ((q0:Nat):Int))) (fun _=>True) l W:=fun l W h=>⟨.inr h,trivial⟩
    have hS2:∀ (l:Array Bool) W,l.getD 6 false=true→Rg.Both 6 (fun W:World=>W.cell? ⟨tp,0,none⟩=some (.pointer (some ⟨tb,0,none⟩))∧W.cell? ⟨tb,3,none⟩=some (.map (some mb))∧W.cell? ⟨ab,0,none⟩=some (.int .i64 ((i0:Nat):Int))∧W.cell? ⟨ab,1,none⟩=some (.int .i64 ((q0:Nat):Int))) (fun _=>True) l W:=fun l W h=>⟨.inl h,trivial⟩;have hI:(fun W:World=>W.cell? ⟨tp,0,none⟩=some (.pointer (some ⟨tb,0,none⟩))∧W.cell? ⟨tb,3,none⟩=some (.map (some mb))∧W.cell? ⟨ab,0,none⟩=some (.int .i64 ((i0:Nat):Int))∧W.cell? ⟨ab,1,none⟩=some (.int .i64 ((q0:Nat):Int))) w56:=⟨C.out.cell,TM.out.h3.c,AB0.out.cell,AB1.out.cell⟩;refine Rg.Any.takeT (i:=0) (t:=6) (v:=.pointer (some ⟨tb,0,none⟩)) (some 50) rfl rfl (by kernel_rfl) (by kernel_rfl) (by kernel_rfl) (fun _ _ _ h=>h) rfl (by kernel_rfl) rfl (Rg.yields_cell _ _ rfl rfl ⟨tp,0,none⟩ rfl (fun W hW=>Rg.run_loadPtr _ _ Tryz.underlying98 hW.1)) (hS _ _ hI) ?_;go_frame
    refine Rg.tg 1 6 (.pointer (some ⟨tb,0,none⟩)) 51 rfl rfl (.inl ⟨rfl,fun w _=>exec_nil _ rfl rfl⟩) (hS _ _ hI) ?_;go_frame;refine Rg.tg 2 6 (.pointer (some ⟨tb,3,none⟩)) 52 rfl rfl (.inl ⟨rfl,fun w _=>exec_field _ rfl rfl (tblF2 _ _)⟩) (hS _ _ hI) ?_;go_frame;refine Rg.Any.takeT (i:=3) (t:=6) (v:=(.map (some mb))) (some 53) rfl rfl (by kernel_rfl) (by kernel_rfl) (by kernel_rfl) (fun _ _ _ h=>h) rfl (by kernel_rfl) rfl (Rg.yields_cell _ _ rfl rfl ⟨tb,3,none⟩ rfl (fun W hW=>run_loadME hW.2.1)) (hS _ _ hI) ?_;go_frame;refine Rg.Any.takeT (i:=4) (t:=6) (v:=(.agg #[.int .i64 ((i0:Nat):Int),.int .i64 ((q0:Nat):Int)])) (some 54) rfl rfl (by kernel_rfl) (by kernel_rfl) (by kernel_rfl) (fun _ _ _ h=>h) rfl (by kernel_rfl) rfl (Rg.yields_cell _ _ rfl rfl ⟨ab,0,none⟩ rfl (fun W hW=>run_loadP2 hW.2.2.1 hW.2.2.2)) (hS _ _ hI) ?_;go_frame;refine Rg.tm 5 6 (.pointer (some ⟨eb,0,none⟩)) 55 (hS _ _ hI) ?_;go_frame
    obtain ⟨X8,hr8,hT8,hk8⟩:=TM.out.put HN0.out;rw [HK0.out,HP0.out] at hr8;refine Rg.Any.one (i:=6) (by kernel_rfl) (Rg.Any.runSkip none rfl rfl rfl (Rg.exec_mapUpdate _ _ _ _ rfl _ _ _ rfl rfl rfl hr8) (hS2 _ _ rfl) ?_);go_frame;refine Rg.Any.done (by kernel_rfl) ?_ _;clear hS2;clear hS hI;have hkf8:=hk8.weak (M':=fun k=>¬ _) fun k h1 h2=>TM.out.nF k h2 h1;replace K:=ι (K.out.trans_or (TM.out.gw hk8 (fun _=>.inl)));replace TM:=ι hT8;replace C:=ι (C.out.kf hkf8);clear hT8 hk8 hkf8 hr8 AB0 AB1;go_upto_region 11 with (fail);have hV0:Below X8.heap.size X8 X8.drew:=(Below.refl _ _).drew;replace TM:=ι (TM.out.up hV0);replace C:=ι (C.out.up hV0);replace K:=ι (K.out.up hV0);generalize Fup F3 X8 X8.drew=F4 at *;clear hV0;refine Rg.Any.begin (S:=Rg.Both 8 (fun W:World=>W.cell? ⟨tp,0,none⟩=some (.pointer (some ⟨tb,0,none⟩))∧W.cell? ⟨tb,4,none⟩=some lv) (fun _=>True)) mix ?_
    generalize X8.drew=w67 at *;have hS:∀ (l:Array Bool) W,(fun W:World=>W.cell? ⟨tp,0,none⟩=some (.pointer (some ⟨tb,0,none⟩))∧W.cell? ⟨tb,4,none⟩=some lv) W→Rg.Both 8 (fun W:World=>W.cell? ⟨tp,0,none⟩=some (.pointer (some ⟨tb,0,none⟩))∧W.cell? ⟨tb,4,none⟩=some lv) (fun _=>True) l W:=fun l W h=>⟨.inr h,trivial⟩;have hS2:∀ (l:Array Bool) W,l.getD 8 false=true→Rg.Both 8 (fun W:World=>W.cell? ⟨tp,0,none⟩=some (.pointer (some ⟨tb,0,none⟩))∧W.cell? ⟨tb,4,none⟩=some lv) (fun _=>True) l W:=fun l W h=>⟨.inl h,trivial⟩;have hI:(fun W:World=>W.cell? ⟨tp,0,none⟩=some (.pointer (some ⟨tb,0,none⟩))∧W.cell? ⟨tb,4,none⟩=some lv) w67:=⟨C.out.cell,TM.out.h4.c⟩;refine Rg.Any.takeT (i:=0) (t:=8) (v:=.pointer (some ⟨tb,0,none⟩)) (some 56) rfl rfl (by kernel_rfl) (by kernel_rfl) (by kernel_rfl) (fun _ _ _ h=>h) rfl (by kernel_rfl) rfl (Rg.yields_cell _ _ rfl rfl ⟨tp,0,none⟩ rfl (fun W hW=>Rg.run_loadPtr _ _ Tryz.underlying98 hW.1)) (hS _ _ hI) ?_;go_frame
    refine Rg.Any.takeT (i:=1) (t:=8) (v:=.pointer (some ⟨tb,0,none⟩)) (some 57) rfl rfl (by kernel_rfl) (by kernel_rfl) (by kernel_rfl) (fun _ _ _ h=>h) rfl (by kernel_rfl) rfl (Rg.yields_cell _ _ rfl rfl ⟨tp,0,none⟩ rfl (fun W hW=>Rg.run_loadPtr _ _ Tryz.underlying98 hW.1)) (hS _ _ hI) ?_;go_frame;refine Rg.tg 2 8 (.pointer (some ⟨tb,0,none⟩)) 58 rfl rfl (.inl ⟨rfl,fun w _=>exec_nil _ rfl rfl⟩) (hS _ _ hI) ?_;go_frame;refine Rg.tg 3 8 (.pointer (some ⟨tb,4,none⟩)) 59 rfl rfl (.inl ⟨rfl,fun w _=>exec_field _ rfl rfl (tblF3 _ _)⟩) (hS _ _ hI) ?_;go_frame;refine Rg.Any.takeT (i:=4) (t:=8) (v:=lv) (some 60) rfl rfl (by kernel_rfl) (by kernel_rfl) (by kernel_rfl) (fun _ _ _ h=>h) rfl (by kernel_rfl) rfl (Rg.yields_cell _ _ rfl rfl ⟨tb,4,none⟩ rfl (fun W hW=>Rg.run_loadSl _ _ Tryz.underlying102 hW.2)) (hS _ _ hI) ?_;go_frame;refine Rg.tm 5 8 (.pointer (some ⟨eb,0,none⟩)) 61 (hS _ _ hI) ?_;go_frame
    obtain ⟨a7,c7,X7,r7,hc7,hk7,hT7,hkp7,hst7⟩:=TM.out.list e0 (by have:=HES.out; omega) 102;rw [HP0.out] at r7;have hba:Below w67.heap.size w67 (w67.alloc (.cells #[.pointer (some ⟨eb,0,none⟩)] 110)):=(Below.refl _ _).alloc (Nat.le_refl _) _;have hq7:lv.ownBlock≠some tp:=fun e=>TM.out.nF tp C.out.inF (.inr (.inr (.inr (.inl e))));have hI3_m:=(show (fun W:World=>W.cell? ⟨tp,0,none⟩=some (.pointer (some ⟨tb,0,none⟩))∧W.cell? ⟨tb,4,none⟩=some lv) (w67.alloc (.cells #[.pointer (some ⟨eb,0,none⟩)] 110)) from ⟨(hba.cell (p:=⟨tp,0,none⟩) C.out.lt).trans C.out.cell,(hba.cell (p:=⟨tb,4,none⟩) TM.out.h4.lt).trans TM.out.h4.c⟩);refine Rg.Any.one (i:=6) (by kernel_rfl) (Rg.Any.run (some 62) rfl rfl rfl (Rg.exec_buildSlice _ _ _ rfl (.pointer (some ⟨eb,0,none⟩)) rfl (run_build1E w67 _)) (hS _ _ hI3_m) ?_);go_frame;have hI4_m:=(show (fun W:World=>W.cell? ⟨tp,0,none⟩=some (.pointer (some ⟨tb,0,none⟩))∧W.cell? ⟨tb,4,none⟩=some lv) X7 from ⟨(World.cell?_of_block (a:=⟨tp,0,none⟩) (hk7.block tp C.out.lt hq7)).trans C.out.cell,hc7.c⟩)
    refine Rg.Any.one (i:=7) (by kernel_rfl) (Rg.Any.run (some 63) rfl rfl rfl (Rg.exec_append _ _ _ rfl rfl rfl r7) (hS _ _ hI4_m) ?_);go_frame;refine Rg.Any.one (i:=8) (by kernel_rfl) (Rg.Any.run (some 64) rfl rfl rfl (exec_nil _ rfl rfl) (hS2 _ _ rfl) ?_);go_frame;refine Rg.tg 9 8 (.pointer (some ⟨tb,4,none⟩)) 65 rfl rfl (.inl ⟨rfl,fun w _=>exec_field _ rfl rfl (tblF3 _ _)⟩) (hS2 _ _ rfl) ?_;go_frame;refine Rg.Any.one (i:=10) (by kernel_rfl) (Rg.Any.runSkip none rfl rfl rfl (Rg.exec_store _ _ _ rfl _ rfl _ rfl (Rg.run_storeSl _ infoEntsV hc7.c hc7.f)) (hS2 _ _ rfl) ?_);go_frame;refine Rg.Any.done (by kernel_rfl) ?_ _;clear hS2;clear hS hI4_m;replace K:=ι (K.out.trans_or (TM.out.gw hkp7 hst7));replace TM:=ι hT7;clear hT7 hkp7 hst7 hk7 hc7 r7;generalize X7.setCell ⟨tb,4,none⟩ (.slice a7 (es1.length+1) c7)=W5 at *;go_wp2
    first
    | go_end0
    | refine bodyPost_ret (results_none rfl _ _ _) rfl ?_
    have h9:=K.out.less (M2:=tbS tb mb (es1++[e0]) sv9 (Value.slice a7 (es1.length+1) c7)) fun k=>.inl;rw [List.length_map] at h9;exact ⟨_,_,_,_,_,_,rfl,HIRb.out,TM.out,h9⟩
end Go.Proofs.YtdnmmibchbceeaaGreat

namespace Go.Proofs.Rg
open Go Go.RowKit
variable {P:Program} {md:Region.Mode} {ops:Array Oper} {Q:Exit→Act→World→Prop}
def Tw (t:Nat) (T:World→Prop) (u:Nat) (U:World→Prop) (l:Array Bool) (w:World):Prop:=Till t T l w∧Till u U l w
theorem Tw.set {t u i:Nat} {T U:World→Prop} (hti:t≠i) (hui:u≠i) (l:Array Bool) (w:World):Tw t T u U (l.setIfInBounds i true) w↔Tw t T u U l w:=by
 unfold Tw; rw [Till.set hti,Till.set hui]
theorem Any.takeA {i t u:Nat} {oi:Oper} {v:Value} {T U:World→Prop} {n:Nat} {l:Array Bool} {a:Act} {w:World} (d:Option Tmp) (hi:ops[i]?=some oi) (hd:oi.dst=d)
  (hs:Region.noSelect ops=true) (hf:Region.free md ops l i=true) (hr:(Region.ready md ops l).contains i=true)
  (hQ:∀ c a w,Q (.panic c) (a.put d v) w→Q (.panic c) a w) (hti:(t == i)=false) (hui:(u == i)=false) (hw:Region.waitsFor md ops t i=true) (hl:l.getD t false=false)
  (hy:YieldsIf P ops T oi v a) (hS:Tw t T u U l w)
  (h:Any P md ops Q (Tw t T u U) n (l.setIfInBounds i true) (a.put d v) w):Any P md ops Q (Tw t T u U) (n+1) l a w:=by
 subst hd;obtain ⟨ot,ht,hw⟩:=Region.waitsFor_spec hw
 have hti':t≠i:=by simpa using hti
 have hui':u≠i:=by simpa using hui
 refine Any.firstG hi (Region.noSelect_spec hs) hQ hti' ht hw (Tw.set hti' hui') (fun l w hl hh=>?_) n l a w hl (Region.free_spec hi hf) (by simpa using hr) hy hS h
 rcases hh.1 with h1 | h1
 ·rw [hl] at h1; cases h1
 ·exact h1
theorem Any.takeB {i t u:Nat} {oi:Oper} {v:Value} {T U:World→Prop} {n:Nat} {l:Array Bool} {a:Act} {w:World} (d:Option Tmp) (hi:ops[i]?=some oi) (hd:oi.dst=d)
  (hs:Region.noSelect ops=true) (hf:Region.free md ops l i=true) (hr:(Region.ready md ops l).contains i=true)
  (hQ:∀ c a w,Q (.panic c) (a.put d v) w→Q (.panic c) a w) (hti:(t == i)=false) (hui:(u == i)=false) (hw:Region.waitsFor md ops u i=true) (hl:l.getD u false=false)
  (hy:YieldsIf P ops U oi v a) (hS:Tw t T u U l w)
  (h:Any P md ops Q (Tw t T u U) n (l.setIfInBounds i true) (a.put d v) w):Any P md ops Q (Tw t T u U) (n+1) l a w:=by
 subst hd;obtain ⟨ou,ht,hw⟩:=Region.waitsFor_spec hw
 have hti':t≠i:=by simpa using hti
 have hui':u≠i:=by simpa using hui
 refine Any.firstG hi (Region.noSelect_spec hs) hQ hui' ht hw (Tw.set hti' hui') (fun l w hl hh=>?_) n l a w hl (Region.free_spec hi hf) (by simpa using hr) hy hS h
 rcases hh.2 with h1 | h1
 ·rw [hl] at h1; cases h1
 ·exact h1
theorem Any.takeP {i t u:Nat} {oi:Oper} {v:Value} {T U:World→Prop} {n:Nat} {l:Array Bool} {a:Act} {w:World} (d:Option Tmp) (hi:ops[i]?=some oi) (hd:oi.dst=d)
  (hs:Region.noSelect ops=true) (hf:Region.free md ops l i=true) (hr:(Region.ready md ops l).contains i=true)
  (hQ:∀ c a w,Q (.panic c) (a.put d v) w→Q (.panic c) a w) (hti:(t == i)=false) (hui:(u == i)=false)
  (hy:YieldsIf P ops (fun _=>True) oi v a) (hS:Tw t T u U l w)
  (h:Any P md ops Q (Tw t T u U) n (l.setIfInBounds i true) (a.put d v) w):Any P md ops Q (Tw t T u U) (n+1) l a w:=by
 subst hd;exact Any.firstH hi (Region.noSelect_spec hs) hQ (Tw.set (by simpa using hti) (by simpa using hui)) (fun l w hh=>trivial) n l a w (Region.free_spec hi hf) (by simpa using hr) hy hS h
end Go.Proofs.Rg

namespace Go.Proofs.YtdnmmibchbceeaaGreat
open Go.RowKit
open Go.Proofs
open Go.Proofs.Ob
attribute [local irreducible] Go.Calls Go.wpList
theorem Dicl0 (args:Array Value) (w:World):(callFunc 91 args).run Tryz.prog w=.ok (.enter 91 args) w:=by kernel_rfl
section
variable {md:Region.Mode} {ops:Array Oper} {Q:Exit→Act→World→Prop} {S:Array Bool→World→Prop}
theorem duo2 {i j di dj:Nat} {I:World→Prop} {R1 R2:Value→World→Prop} {R:Value→Value→World→Prop} {n:Nat} {l:Array Bool} {a:Act} {w:World} (hS:∀ l W,I W→S l W) (ij:i≠j) (dij:di≠dj)
  (r0:Region.ready md ops l=[i,j]) (ri:Region.ready md ops (l.setIfInBounds i true)=[j]) (rj:Region.ready md ops (l.setIfInBounds j true)=[i])
  (h1:Rg.Does Tryz.prog ops Q i di I R1 (fun _ _=>True) a w) (h1':∀ u W,I W→R1 u W→Rg.Does Tryz.prog ops Q j dj I (fun v W'=>R u v W') (fun _ _=>True) (a.put (some di) u) W)
  (h2:Rg.Does Tryz.prog ops Q j dj I R2 (fun _ _=>True) a w) (h2':∀ v W,I W→R2 v W→Rg.Does Tryz.prog ops Q i di I (fun u W'=>R u v W') (fun _ _=>True) (a.put (some dj) v) W)
  (h:∀ W u v,I W→R u v W→Rg.Any Tryz.prog md ops Q S n ((l.setIfInBounds i true).setIfInBounds j true) ((a.put (some di) u).put (some dj) v) W) :
  Rg.Any Tryz.prog md ops Q S (n+2) l a w:=by
 refine Rg.Any.two r0 ?_ ?_
 ·refine wpOp_mono ?_ h1
  rintro c W ⟨u,rfl,g1,g2,-⟩;refine ⟨hS _ _ g1,Rg.Any.one ri ?_⟩;refine wpOp_mono ?_ (h1' u W g1 g2);rintro c W' ⟨v,rfl,e1,e2,-⟩;exact ⟨hS _ _ e1,h _ _ _ e1 e2⟩
 ·refine wpOp_mono ?_ h2
  rintro c W ⟨v,rfl,g1,g2,-⟩;refine ⟨hS _ _ g1,Rg.Any.one rj ?_⟩;refine wpOp_mono ?_ (h2' v W g1 g2);rintro c W' ⟨u,rfl,e1,e2,-⟩;have:=h _ _ _ e1 e2;rw [Rg.put_comm _ _ _ dij,Array.setIfInBounds_comm _ _ ij] at this;exact ⟨hS _ _ e1,this⟩
theorem dRun {i d:Nat} {I:World→Prop} {R:Value→World→Prop} {oi:Oper} {b:Act} {W W':World} {v:Value} (hi:ops[i]?=some oi) (hd:oi.dst=some d) (hw:Region.wanted oi (yielded ops b.tmps)=true)
  (hr:(execOp b.eval oi).run Tryz.prog W=.ok (.value v) W') (h1:I W') (h2:R v W'):Rg.Does Tryz.prog ops Q i d I R (fun _ _=>True) b W :=
 Rg.wpOp_value (some d) hi hd hw hr ⟨v,rfl,h1,h2,trivial⟩
theorem dCall {i d:Nat} {I:World→Prop} {R:Value→World→Prop} {oi:Oper} {b:Act} {W:World} (hi:ops[i]?=some oi) (hd:oi.dst=some d) (hw:Region.wanted oi (yielded ops b.tmps)=true) (f:FuncId) (args:Array Value)
  (hr:(execOp b.eval oi).run Tryz.prog W=.ok (.enter f args) W) (hc:Calls Tryz.prog f args W fun e W'=>∃ v,e=.returned v∧I W'∧R v W'):Rg.Does Tryz.prog ops Q i d I R (fun _ _=>True) b W:=by
 unfold Rg.Does wpOp;simp only [hi,hw,if_true]
 left
 unfold Oper.wp;rw [hr,Oper.upon_enter];refine hc.mono fun e w' ⟨v,h1,h2,h3⟩=>?_;subst h1;exact ⟨v,by rw [hd],h2,h3,trivial⟩
end
def NewPI (F:Nat→Prop) (V:World) (x:List Nat) (i j:Int) (u v:Value) (W:World):Prop :=
 (∀ k,u.ownBlock=some k→V.heap.size≤k∧k<W.heap.size)∧FP (fun k=>F k∨u.ownBlock=some k) W u x∧∃ g,v=.slice (some ⟨g,0,none⟩) 2 2∧V.heap.size≤g∧u.ownBlock≠some g∧W.ownsRow V.heap.size 3 1 v 2 [.int .i64 i,.int .i64 j]
theorem exec_buildSlice2 {P:Program} {o:Oper} {a:Act} {w w':World} {v:Value} (t:TypeId) (n:Nat) (x y:Operand) (ho:o.op=.buildSlice t n #[(0,x),(1,y)]) {xv yv:Value} (hx:a.eval x=xv) (hy:a.eval y=yv)
  (hr:(Instr.buildSlice t n #[(0,xv),(1,yv)]).run P w=.ok v w'):(execOp a.eval o).run P w=.ok (.value v) w':=by
 unfold execOp;simp only [ho,Sem.run_bind,Sem.run_pure,List.map_toArray,List.map_cons,List.map_nil,hx,hy]
 first | (rw [hr]; rfl) | (erw [hr]; rfl) | simp [hr]
theorem np_own {B:Nat} {W:World} {u:Value} {x:List Nat} (h:Rg.NP W u x) (hf:Rg.Fresh B u) (h1:1≤x.length):∀ k,u.ownBlock=some k→B≤k∧k<W.heap.size:=by
 obtain ⟨a,c,e,_,_,_,hc⟩:=h.shape;obtain ⟨b,o,e1,hb,_⟩:=hc (by omega);subst e1;intro k hk;rw [e] at hk;have hk:some b=some k:=hk
 injection hk with hk
 subst hk;exact ⟨hf _ _ _ e,hb⟩
theorem np_fp {F:Nat→Prop} {W:World} {u:Value} {x:List Nat} (h:Rg.NP W u x):FP (fun k=>F k∨u.ownBlock=some k) W u x:=by
 obtain ⟨a,cap,h1,h2,h3,h4,h5⟩:=h;refine ⟨a,cap,h1,h2,h3,h4,fun h0=>?_⟩;obtain ⟨b,o,e1,e2,e3⟩:=h5 h0;subst e1;exact ⟨b,o,rfl,e2,.inr (by rw [h1]; rfl),e3⟩
theorem row2_new {B:Nat} (W:World) (hB:B≤W.heap.size) (i j:Int):(W.alloc (.cells #[.int .i64 i,.int .i64 j] 3)).ownsRow B 3 1 (.slice (some ⟨W.heap.size,0,none⟩) 2 2) 2 [.int .i64 i,.int .i64 j] :=
 ⟨rfl,.inr ⟨W.heap.size,2,#[.int .i64 i,.int .i64 j],rfl,hB,by unfold World.alloc; simp,Nat.le_refl _,by unfold maxLen; omega,rfl,rfl⟩⟩
theorem NewPI.one {F:Nat→Prop} {V W:World} {x:List Nat} {u:Value} (h:Rg.NP W u x) (hf:Rg.Fresh V.heap.size u) (h1:1≤x.length) (hb:Below V.heap.size V W) (i j:Int) :
  NewPI F V x i j u (.slice (some ⟨W.heap.size,0,none⟩) 2 2) (W.alloc (.cells #[.int .i64 i,.int .i64 j] 3)):=by
 have hn:Below W.heap.size W (W.alloc (.cells #[.int .i64 i,.int .i64 j] 3)):=(Below.refl _ _).alloc (Nat.le_refl _) _;have ho:=np_own h hf h1;exact ⟨fun k e=>⟨(ho k e).1,Nat.lt_of_lt_of_le (ho k e).2 hn.size⟩,np_fp (Rg.NP.below h hn),_,rfl,hb.size,fun e=>Nat.lt_irrefl _ (ho _ e).2,row2_new W hb.size i j⟩
theorem NewPI.two {F:Nat→Prop} {V W:World} {x:List Nat} {u:Value} (i j:Int) (h:Rg.NPF (V.alloc (.cells #[.int .i64 i,.int .i64 j] 3)) W u x) (h1:1≤x.length) (hb:Below (V.alloc (.cells #[.int .i64 i,.int .i64 j] 3)).heap.size (V.alloc (.cells #[.int .i64 i,.int .i64 j] 3)) W) :
  NewPI F V x i j u (.slice (some ⟨V.heap.size,0,none⟩) 2 2) W:=by
 have ho:=np_own h.1 h.2 h1
 have e:(V.alloc (.cells #[.int .i64 i,.int .i64 j] 3)).heap.size=V.heap.size+1:=by simp
 exact ⟨fun k q=>⟨by have:=(ho k q).1; omega,(ho k q).2⟩,np_fp h.1,_,rfl,Nat.le_refl _,fun q=>by have:=(ho _ q).1; omega,Rg.row_below (row2_new V (Nat.le_refl _) i j) hb⟩
theorem Gw.grow {F0 M0 F M P Q:Nat→Prop} {w V W:World} (h:Gw F0 M0 w F M V) (hb:Below V.heap.size V W) (hQ:∀ k,Q k→V.heap.size≤k∧k<W.heap.size) (hP:∀ k,P k→V.heap.size≤k):Gw F0 M0 w (fun k=>F k∨Q k) (fun k=>M k∨P k) W:=by
 have hs:=h.kp.size;refine ⟨⟨fun k hk=>.inl (h.kg.sub k hk),fun k hk=>hk.elim (fun e=>Nat.lt_of_lt_of_le (h.kg.lt k e) hb.size) (fun e=>(hQ k e).2),KF.trans h.kg.kf (KF.of_below (F:=F) hb) h.kg.sub⟩,Rg.Kp.trans (M:=M0) h.kp (Rg.Kp.of_below (M:=M0) hb) (fun _ _ e=>e),fun k hk=>hk.elim (h.nF k) (fun e=>.inr (Nat.le_trans hs (hQ k e).1)),fun k hk=>hk.elim (h.nM k) (fun e=>.inr (Nat.le_trans hs (hP k e)))⟩
theorem Gw.fresh {F0 M0 F M P:Nat→Prop} {w V W:World} (h:Gw F0 M0 w F M V) (hb:Below V.heap.size V W) (hP:∀ k,P k→V.heap.size≤k):Gw F0 M0 w F (fun k=>M k∨P k) W:=by
 have hs:=h.kp.size;exact ⟨h.kg.kf' (KF.of_below (F:=F) hb),Rg.Kp.trans (M:=M0) h.kp (Rg.Kp.of_below (M:=M0) hb) (fun _ _ e=>e),h.nF,fun k hk=>hk.elim (h.nM k) (fun e=>.inr (Nat.le_trans hs (hP k e)))⟩
theorem own_eq {b k n c:Nat} (h:(Value.slice (some ⟨b,0,none⟩) n c).ownBlock=some k):b≤k:=by
 have h:some b=some k:=h
 injection h with h
 exact Nat.le_of_eq h
theorem NewPI.tm {B:Nat} {F:Nat→Prop} {tb mb N:Nat} {V W:World} {S:List Stp} {nx:Nat} {es:List En} {sv lv:Value} (h:TbM B F tb mb N V S nx es es es sv lv) (hb:Below V.heap.size V W) {x:List Nat} {i j:Int} {u v:Value} (hn:NewPI F V x i j u v W):TbM B (fun k=>F k∨u.ownBlock=some k) tb mb N W S nx es es es sv lv:=by
 have hl:=h.Mlt;refine (h.below hb).mono (fun k=>.inl) (fun k hk=>hk.elim (fun e=>Nat.lt_of_lt_of_le (h.Flt k e) hb.size) (fun e=>(hn.1 k e).2)) (fun k hk hm=>hk.elim (fun e=>h.nF k e hm) (fun e=>?_));have:=(hn.1 k e).1;have:=hl k hm;omega
theorem NewPI.rw {F M:Nat→Prop} {V W:World} {x:List Nat} {i j:Nat} {u v:Value} (hn:NewPI F V x ((i:Nat):Int) ((j:Nat):Int) u v W) (hb:Below V.heap.size V W) (hF:∀ k,F k→k<V.heap.size) (hM:∀ k,M k→k<V.heap.size):RwI (fun k=>F k∨u.ownBlock=some k) M W v ([i,j].map fun k:Nat=>((k:Nat):Int)):=by
 obtain ⟨h1,h2,g,rfl,hg,hne,how⟩:=hn;refine ⟨⟨V.heap.size,hb.size,how⟩,fun k e=>?_⟩;have hk:=World.ownsRow.lt how k e;have e:some g=some k:=e
 injection e with e
 subst e;exact ⟨fun h=>h.elim (fun q=>by have:=hF _ q; omega) hne,fun q=>by have:=hM _ q; omega,hk.2⟩
structure GrF (F:Nat→Prop) (W:World) (gb:Nat) (gs:List (List Nat)) (ga:Option Addr) (gc:Nat):Prop where
 c1:CF F W gb 1 (.slice ga gs.length gc)
 rows:Rg.FRows F W (.slice ga gs.length gc) (gs.map Ma.ofN)
theorem FRows.kfx {F:Nat→Prop} {w w':World} {v:Value} {ll:List (List Int)} (h:Rg.FRows F w v ll) (hk:KF F w w'):Rg.FRows F w' v ll:=by
 obtain ⟨us,h1,h2⟩:=h;exact ⟨us,h1.kp hk (fun _ a b=>b a),h2.kp hk (fun _ a b=>b a)⟩
theorem FRows.monox {F F':Nat→Prop} {w:World} {v:Value} {ll:List (List Int)} (h:Rg.FRows F w v ll) (hF:∀ k,F k→F' k):Rg.FRows F' w v ll:=by
 obtain ⟨us,h1,h2⟩:=h;exact ⟨us,h1.mono hF,h2.mono hF⟩
theorem GrF.kf {F:Nat→Prop} {W W':World} {gb:Nat} {gs:List (List Nat)} {ga:Option Addr} {gc:Nat} (h:GrF F W gb gs ga gc) (hk:KF F W W'):GrF F W' gb gs ga gc:=⟨h.c1.kf hk,FRows.kfx h.rows hk⟩
theorem GrF.mono {F F':Nat→Prop} {W:World} {gb:Nat} {gs:List (List Nat)} {ga:Option Addr} {gc:Nat} (h:GrF F W gb gs ga gc) (hF:∀ k,F k→F' k):GrF F' W gb gs ga gc:=⟨h.c1.mono hF,FRows.monox h.rows hF⟩
theorem GrF.kg {F F':Nat→Prop} {W W':World} {gb:Nat} {gs:List (List Nat)} {ga:Option Addr} {gc:Nat} (h:GrF F W gb gs ga gc) (hk:KG F W F' W'):GrF F' W' gb gs ga gc:=(h.kf hk.kf).mono hk.sub
theorem GrF.up {F:Nat→Prop} {W W':World} {gb:Nat} {gs:List (List Nat)} {ga:Option Addr} {gc:Nat} (h:GrF F W gb gs ga gc) (hb:Below W.heap.size W W'):GrF (Fup F W W') W' gb gs ga gc:=(h.kf (KF.of_below hb)).mono fun k=>.inl
theorem GrF.at {F:Nat→Prop} {W:World} {gb:Nat} {gs:List (List Nat)} {ga:Option Addr} {gc:Nat} (h:GrF F W gb gs ga gc) {i:Nat} (hi:i<gs.length):∃ b o u,ga=some ⟨b,o,none⟩∧CF F W b (o+i) u∧FP F W u gs[i]:=by
 obtain ⟨us,⟨a,cap,h1,h2,h3,h4,h5⟩,h6⟩:=h.rows
 have hl:us.length=gs.length:=by have:=h6.1; rwa [List.length_map] at this
 simp only [Value.slice.injEq] at h1;obtain ⟨rfl,-,rfl⟩:=h1;obtain ⟨b,o,e1,e2,e3,e4⟩:=h5 (by omega);have:=h6.2 i (by omega) (by rw [List.length_map]; exact hi);rw [List.getElem_map] at this;exact ⟨b,o,us[i]'(by omega),e1,⟨e4 i (by omega),e3,e2⟩,this⟩
theorem InsR.xs {N:Nat} {gs:List (List Nat)} {S:List Stp} {T:List (List Nat)} {es:List En} {x:List Nat} {S':List Stp} {T':List (List Nat)} {es':List En} (h:InsR N gs S T es x S' T' es'):∃ m,es'.map (·.x)=es.map (·.x)++m:=by
 obtain ⟨t,ht⟩:=h.key;have:=congrArg (List.map fun q:Nat × Nat × Nat × List Nat × Nat=>q.2.2.2.1) ht;rw [List.map_append,List.map_map,List.map_map] at this;exact ⟨_,this.symm⟩
theorem InsR.len {N:Nat} {gs:List (List Nat)} {S:List Stp} {T:List (List Nat)} {es:List En} {x:List Nat} {S':List Stp} {T':List (List Nat)} {es':List En} (h:InsR N gs S T es x S' T' es'):es.length≤es'.length:=by
 have:=h.key.length_le
 simpa using this
theorem InsR.mem {N:Nat} {gs:List (List Nat)} {S:List Stp} {T:List (List Nat)} {es:List En} {x:List Nat} {S':List Stp} {T':List (List Nat)} {es':List En} (h:InsR N gs S T es x S' T' es') {b k:Nat} {y:List Nat} (he:∃ e∈es,e.b=b∧e.x=y∧e.at_=k):∃ e∈es',e.b=b∧e.x=y∧e.at_=k:=by
 obtain ⟨e,he,h1,h2,h3⟩:=he;have:key5 e∈es'.map key5:=h.key.subset (List.mem_map_of_mem he);obtain ⟨e',h4,h5⟩:=List.mem_map.1 this;simp only [key5,Prod.mk.injEq] at h5;exact ⟨e',h4,h5.1.trans h1,h5.2.2.2.1.trans h2,h5.2.2.2.2.trans h3⟩
theorem InsR.pp {N:Nat} {gs:List (List Nat)} {S:List Stp} {T:List (List Nat)} {es:List En} {x:List Nat} {S':List Stp} {T':List (List Nat)} {es':List En} (h:InsR N gs S T es x S' T' es') {i k m:Nat} (hp:PP N (trE es) (es.map (·.x)) i k m) (hi:i<es.length) (hk:k≤i):PP N (trE es') (es'.map (·.x)) i k m:=by
 obtain ⟨m',hm⟩:=h.xs;rw [hm];exact hp.more (by rw [List.length_map]; exact hi) hk h.mono
theorem InsR.pr {N:Nat} {gs:List (List Nat)} {S:List Stp} {T:List (List Nat)} {es:List En} {x:List Nat} {S':List Stp} {T':List (List Nat)} {es':List En} (h:InsR N gs S T es x S' T' es') {i k:Nat} {a b:List Nat} (ha:(es.map (·.x))[i]?=some a) (hb:(es.map (·.x))[k]?=some b) (hx:x=Ma.mulN a b):PrS N (trE es') (es'.map (·.x)) i k:=by
 obtain ⟨m',hm⟩:=h.xs;unfold PrS;rw [hm,List.getD_eq_getElem?_getD,List.getD_eq_getElem?_getD,List.getElem?_append_left (List.getElem?_eq_some_iff.1 ha).1,List.getElem?_append_left (List.getElem?_eq_some_iff.1 hb).1,ha,hb];show Cm.Sd N _ N (Ma.mulN a b);rw [← hx]; exact h.sd
def FiP (B:Nat) (F:Nat→Prop) (tb mb N:Nat) (gs:List (List Nat)) (sv lv:Value) (w:World) (ed:Ending) (w':World):Prop :=
 ∃ (F':Nat→Prop) (sv' lv':Value) (S':List Stp) (T':List (List Nat)) (es':List En),ed=.returned (.tuple #[])∧Tb N gs S' T' es'∧Cm.IsTr N (Cm.Gr N (·∈gs)) (Cm.idT N (trE es'))∧S'.length≤es'.length*(2*N+2) ∧
  TbM B F' tb mb N w' S' T'.length es' es' es' sv' lv'∧Gw F (tbS tb mb [] sv lv) w F' (tbS tb mb es' sv' lv') w'
structure FlR (N:Nat) (gs:List (List Nat)) (S:List Stp) (T:List (List Nat)) (es:List En):Prop where
 tb:Tb N gs S T es
 pre:gs <+: T
 bd:S.length≤es.length*(2*N+2)
theorem FlR.tl {N:Nat} {gs:List (List Nat)} {S:List Stp} {T:List (List Nat)} {es:List En} (h:FlR N gs S T es) (hN:N≤16) (hg:gs.length≤1000):T.length<50000∧es.length≤256:=by
 have h1:=h.tb.sk.len;have h2:=h.tb.few;have h3:N*N≤16*16:=Nat.mul_le_mul hN hN;have h4:es.length*(2*N+2)≤256*34:=Nat.mul_le_mul (by omega) (by omega);have h5:=h.bd;omega
theorem FlR.ins {N:Nat} {gs:List (List Nat)} {S:List Stp} {T:List (List Nat)} {es:List En} (h:FlR N gs S T es) {x:List Nat} {S':List Stp} {T':List (List Nat)} {es':List En} (hi:InsR N gs S T es x S' T' es'):FlR N gs S' T' es':=by
 have h1:=h.bd;have h2:=hi.bd;exact ⟨hi.tb,h.pre.trans hi.pre,by omega⟩
theorem fill_t {B:Nat} {F0:Nat→Prop} {tb mb N:Nat} {w:World} {gs:List (List Nat)} {sv lv:Value} (hg:∀ s∈gs,Cm.Gd N s) (h:TbM B F0 tb mb N w [] gs.length [] [] [] sv lv) (hn1:1≤N) (hn2:N≤16) (hgl:gs.length≤1000) {ga:Option Addr} {gc:Nat} (hr:Rg.FRows F0 w (.slice ga gs.length gc) (gs.map Ma.ofN)) :
  Calls Tryz.prog 64 #[.pointer (some ⟨tb,0,none⟩),.agg #[.int .i64 ((N:Nat):Int),.slice ga gs.length gc]] w (FiP B F0 tb mb N gs sv lv w):=by
 have HG:=ι hg;have HGI:=ι (Cm.Gr.isG (gs:=(·∈gs)) hg);have K:=ι (Gw.refl (M:=tbS tb mb [] sv lv) h.Flt);have hb:Below w.heap.size w (w.alloc (.cells #[.int .i64 ((N:Nat):Int),.slice ga gs.length gc] 24)):=(Below.refl _ _).alloc (Nat.le_refl _) _;have TM:=ι (h.up hb);replace K:=ι (K.out.up hb)
 have GR:=ι (show GrF (Fup F0 w (w.alloc (.cells #[.int .i64 ((N:Nat):Int),.slice ga gs.length gc] 24))) (w.alloc (.cells #[.int .i64 ((N:Nat):Int),.slice ga gs.length gc] 24)) w.heap.size gs ga gc from
  ⟨⟨by rw [Rg.cellNew]; rfl,.inr ⟨Nat.le_refl _,by simp⟩,by simp⟩,FRows.monox (FRows.kfx hr (KF.of_below hb)) fun k=>.inl⟩)
 have FL:=ι (show FlR N gs [] gs [] from ⟨⟨Mk.start hg,fun e he=>(by cases he),Cm.TabOk.nil0,List.nodup_nil⟩,List.prefix_rfl,Nat.zero_le _⟩);have HS:=ι (show ∀ j,j<0→∀ s,gs[j]?=some s→Cm.Sd N (Cm.idT N (trE [])) N s from fun j hj=>absurd hj (Nat.not_lt_zero _));obtain ⟨gb,hgb⟩:∃ b,b=w.heap.size:=⟨_,rfl⟩;clear hg h hr hb
 go_enter Tryz.func64,Tryz.ntmps64
 go_upto_region 0 with (fail);refine Rg.wl ?_;refine Rg.lr 3 (Rg.exec_box _ _ rfl rfl) ?_;go_frame;generalize Fup F0 w (w.alloc (.cells #[.int .i64 ((N:Nat):Int),.slice ga gs.length gc] 24))=F1 at *;rw [← hgb] at GR;generalize w.alloc (.cells #[.int .i64 ((N:Nat):Int),.slice ga gs.length gc] 24)=w0 at *;rw [← hgb];clear hgb;go_upto_region 1 with (fail);refine Rg.wl ?_;refine Rg.lr 10 (exec_fieldG _ rfl rfl) ?_;go_frame;refine Rg.lr 11 (Rg.exec_load (v:=.slice ga gs.length gc) _ _ rfl ⟨gb,1,none⟩ rfl (Rg.run_loadSl _ _ Tryz.underlying22 GR.out.c1.cell)) ?_;go_frame;refine Rg.lr 12 (exec_len _ _ _ rfl Tryz.underlying22 _ _ _ rfl) ?_;go_frame;refine Rg.lm 13 (.int .i64 ((0:Nat):Int)) ?_;go_frame;go_wp2
 go_loopw [13] (fun iv wr=>∃ (i:Nat) (F1:Nat→Prop) (sv1 lv1:Value) (S1:List Stp) (T1:List (List Nat)) (es1:List En),iv=.int .i64 ((i:Nat):Int)∧i≤gs.length∧Hid (FlR N gs S1 T1 es1)∧Hid (∀ j,j<i→∀ s,gs[j]?=some s→Cm.Sd N (Cm.idT N (trE es1)) N s)∧Hid (TbM B F1 tb mb N wr S1 T1.length es1 es1 es1 sv1 lv1)∧Hid (Gw F0 (tbS tb mb [] sv lv) w F1 (tbS tb mb es1 sv1 lv1) wr)∧Hid (GrF F1 wr gb gs ga gc)) (fun iv _=>gs.length - (intOf iv).toNat)
 case atStart=>exact ⟨0,_,sv,lv,[],gs,[],rfl,Nat.zero_le _,FL,HS,TM,K,GR⟩
 case round =>
  clear FL HS TM K GR;obtain ⟨i,F1,sv1,lv1,S1,T1,es1,rfl,hi,FL,HS,TM,K,GR⟩:=hrel;have HTL:=ι (FL.out.tl hn2 hgl)
  by_cases hil:i<gs.length
  case pos =>
   have HIL:=ι hil;obtain ⟨sb,so,su,e1,hcu,hfu⟩:=GR.out.at hil;subst e1;obtain ⟨s,hs⟩:∃ s,Hid (gs[i]'hil=s):=⟨_,ι rfl⟩;rw [hs.out] at hfu;have CU:=ι hcu;have XU:=ι hfu;have HSI:=ι (show gs[i]?=some s by rw [List.getElem?_eq_getElem hil,hs.out]);have HST:=ι (show T1[i]?=some s from pre_at FL.out.pre HSI.out);have HSG:=ι (show Cm.Gr N (·∈gs) s from .gen s (List.mem_of_getElem? HSI.out));clear hcu hfu;go_upto_region 2 with (fail);refine Rg.wl ?_;refine Rg.lr 14 (exec_bin (R:=.bool true) .lss _ _ _ rfl rfl rfl (b_lss _ Rg.dT)) ?_;go_frame;go_upto_region 3 with (fail);refine Rg.wl ?_;refine Rg.lm 15 (.int .i64 ((i:Nat):Int)) ?_;go_frame;refine Rg.lr 16 (exec_indexS slPerms _ _ rfl sb (so) (gs.length) gc (i) rfl rfl HIL.out) ?_;go_frame;refine Rg.lr 17 (Rg.exec_load (v:=su) _ _ rfl ⟨sb,so+i,none⟩ rfl (Rg.run_loadSl _ _ Tryz.underlying30 CU.out.cell)) ?_;go_frame
   refine Rg.la 4 (.int .i64 ((i:Nat):Int)) ?_;go_frame;refine Rg.la 5 (su) ?_;go_frame;go_upto_region 4 with (fail);refine Rg.wl ?_;refine Rg.lm 18 (.pointer (some ⟨tb,0,none⟩)) ?_;go_frame;refine Rg.lm 19 (su) ?_;go_frame;refine Rg.lm 20 (.int .i64 ((i:Nat):Int)) ?_;go_frame;have hRW:=RwI.new (W:=wr) TM.out.Flt TM.out.Mlt [((i:Nat):Int)] (by simp) 3 rfl;have hb8:Below wr.heap.size wr (wr.alloc (.cells #[.int .i64 ((i:Nat):Int)] 3)):=(Below.refl _ _).alloc (Nat.le_refl _) _;refine Rg.lr 21 (Rg.exec_buildSlice _ _ _ rfl (.int .i64 ((i:Nat):Int)) rfl (run_build1N wr _)) ?_;go_frame;have TM8:=ι (TM.out.below hb8);have XU8:=ι (FP.kf XU.out (KF.of_below hb8));have GR8:=ι (GR.out.kf (KF.of_below hb8));have K8:=ι (K.out.fresh (P:=fun k=>(Value.slice (some ⟨wr.heap.size,0,none⟩) 1 1).ownBlock=some k) hb8 (fun k=>own_eq));clear hb8;refine Rg.lk 22 (exec_fn3 91 _ _ _ _ rfl rfl rfl rfl (Dicl0 _ _)) ?_
   refine (insert_t (parts:=[i]) HG.out FL.out.tb TM8.out hn1 hn2 XU8.out HSG.out hRW (by simp) (by simp; exact ⟨_,HST.out⟩) (by show T1.getD i []=s; rw [List.getD_eq_getElem?_getD,HST.out]; rfl) HTL.out.1).mono ?_;rintro e1 w21 ⟨F9,sv9,lv9,S9,T9,es9,rfl,hin9,hT9,hg9⟩;have hg9x:=hg9;refine ⟨_,rfl,?_⟩;go_frame;clear hg9x;have FL9:=ι (FL.out.ins hin9)
   have HS9:=ι (show ∀ j,j<i+1→∀ s,gs[j]?=some s→Cm.Sd N (Cm.idT N (trE es9)) N s from fun j hj z hz=>by
    by_cases e:j=i
    ·subst e
     rw [HSI.out] at hz
     injection hz with hz
     subst hz;exact hin9.sd
    ·exact Cm.Sd.mono (fun a b u _=>hin9.mono a b u) (HS.out j (by omega) z hz))
   have TM9:=ι hT9;have GR9:=ι (GR8.out.kg hg9.kg);have K9:=ι (K8.out.trans hg9);clear hT9 hg9 hin9 FL HS TM K GR TM8 XU8 GR8 K8 hRW CU XU;go_upto_region 5 with (fail);refine Rg.wl ?_;refine Rg.lr 23 (exec_bin (R:=.int .i64 (((i+1):Nat):Int)) .add _ _ _ rfl rfl rfl (b_add _ (by omega) (by omega))) ?_;go_frame;refine Rg.lm 13 (.int .i64 (((i+1):Nat):Int)) ?_;go_frame;go_wp2
   go_roundw
   case rel=>exact ⟨i+1,_,_,_,_,_,_,by go_num,HIL.out,FL9,HS9,TM9,K9,GR9⟩
   case measure=>simp [intOf]; have:=HIL.out; omega
  case neg =>
   have HSA:=ι (show ∀ s,s∈gs→Cm.Sd N (Cm.idT N (trE es1)) N s from fun s hs=>by
    obtain ⟨j,hj,e⟩:=List.getElem_of_mem hs
    exact HS.out j (by omega) s (by rw [List.getElem?_eq_getElem hj,e]))
   have HP:=ι (PP.start (n:=N) (tr:=trE es1) (l:=es1.map (·.x)));clear HS HTL GR;go_upto_region 2 with (fail);refine Rg.wl ?_;refine Rg.lr 14 (exec_bin (R:=.bool false) .lss _ _ _ rfl rfl rfl (b_lss _ Rg.dF)) ?_;go_frame;go_upto_region 6 with (fail);refine Rg.wl ?_;refine Rg.la 6 (.int .i64 ((0:Nat):Int)) ?_;go_frame;go_wp2
   go_loopw [6] (fun iv wr=>∃ (i:Nat) (F1:Nat→Prop) (sv1 lv1:Value) (S1:List Stp) (T1:List (List Nat)) (es1:List En),iv=.int .i64 ((i:Nat):Int)∧i≤es1.length∧Hid (FlR N gs S1 T1 es1)∧Hid (∀ s,s∈gs→Cm.Sd N (Cm.idT N (trE es1)) N s)∧Hid (PP N (trE es1) (es1.map (·.x)) i 0 0)∧Hid (TbM B F1 tb mb N wr S1 T1.length es1 es1 es1 sv1 lv1)∧Hid (Gw F0 (tbS tb mb [] sv lv) w F1 (tbS tb mb es1 sv1 lv1) wr)) (fun iv _=>300 - (intOf iv).toNat)
   case atStart=>exact ⟨0,_,_,_,_,_,_,rfl,Nat.zero_le _,FL,HSA,HP,TM,K⟩
   case round =>
    clear FL HSA HP TM K hi hil;obtain ⟨i,F1,sv1,lv1,S1,T1,es1,rfl,hi,FL,HSA,HP,TM,K⟩:=hrel;obtain ⟨la,lc,hls⟩:=Rg.row_shape TM.out.ls;subst hls;have hes:=(FL.out.tl hn2 hgl).2
    by_cases hil:i<es1.length
    case neg =>
     have hie:i=es1.length:=by omega
     have HIE:=ι hie;clear hie;go_upto_region 7 with (fail);refine Rg.wl ?_;refine Rg.lm 24 (.int .i64 ((i:Nat):Int)) ?_;go_frame;refine Rg.lm 25 (.pointer (some ⟨tb,0,none⟩)) ?_;go_frame;refine Rg.lr 26 (exec_nil _ rfl rfl) ?_;go_frame;refine Rg.lr 27 (exec_field _ rfl rfl (tblF3 _ _)) ?_;go_frame;refine Rg.lr 28 (Rg.exec_load (v:=.slice la es1.length lc) _ _ rfl ⟨tb,4,none⟩ rfl (Rg.run_loadSl _ _ Tryz.underlying102 TM.out.h4.c)) ?_;go_frame;refine Rg.lr 29 (exec_len _ _ _ rfl Tryz.underlying102 _ _ _ rfl) ?_;go_frame;refine Rg.lr 30 (exec_bin (R:=.bool false) .lss _ _ _ rfl rfl rfl (b_lss _ Rg.dF)) ?_;go_frame;have HTR:=ι ((FL.out.tb.le HSA.out).done HG.out (fun a b ha hb=>HP.out.1 a b (by rw [List.length_map] at ha; have:=HIE.out; omega) (by rw [List.length_map] at hb; have:=HIE.out; omega)));go_wp2
     first
     | go_end0
     | refine bodyPost_ret (results_none rfl _ _ _) rfl ?_
     exact ⟨_,_,_,_,_,_,rfl,FL.out.tb,HTR.out,FL.out.bd,TM.out,K.out⟩
    case pos =>
     have HIL:=ι hil;go_upto_region 7 with (fail);refine Rg.wl ?_;refine Rg.lm 24 (.int .i64 ((i:Nat):Int)) ?_;go_frame;refine Rg.lm 25 (.pointer (some ⟨tb,0,none⟩)) ?_;go_frame;refine Rg.lr 26 (exec_nil _ rfl rfl) ?_;go_frame;refine Rg.lr 27 (exec_field _ rfl rfl (tblF3 _ _)) ?_;go_frame;refine Rg.lr 28 (Rg.exec_load (v:=.slice la es1.length lc) _ _ rfl ⟨tb,4,none⟩ rfl (Rg.run_loadSl _ _ Tryz.underlying102 TM.out.h4.c)) ?_;go_frame;refine Rg.lr 29 (exec_len _ _ _ rfl Tryz.underlying102 _ _ _ rfl) ?_;go_frame;refine Rg.lr 30 (exec_bin (R:=.bool true) .lss _ _ _ rfl rfl rfl (b_lss _ Rg.dT)) ?_;go_frame;go_upto_region 9 with (fail);refine Rg.wl ?_;refine Rg.la 7 (.int .i64 ((0:Nat):Int)) ?_;go_frame;go_wp2
     go_loopw [7] (fun kv wr=>∃ (k:Nat) (F1:Nat→Prop) (sv1 lv1:Value) (S1:List Stp) (T1:List (List Nat)) (es1:List En),kv=.int .i64 ((k:Nat):Int)∧k≤i+1∧i<es1.length∧Hid (FlR N gs S1 T1 es1)∧Hid (∀ s,s∈gs→Cm.Sd N (Cm.idT N (trE es1)) N s)∧Hid (PP N (trE es1) (es1.map (·.x)) i k 0)∧Hid (TbM B F1 tb mb N wr S1 T1.length es1 es1 es1 sv1 lv1)∧Hid (Gw F0 (tbS tb mb [] sv lv) w F1 (tbS tb mb es1 sv1 lv1) wr)) (fun kv _=>300 - (intOf kv).toNat)
     case atStart=>exact ⟨0,_,_,_,_,_,_,rfl,Nat.zero_le _,hil,FL,HSA,HP,TM,K⟩
     case round =>
      clear FL HSA HP TM K HIL hil hi hes;obtain ⟨k,F1,sv1,lv1,S1,T1,es1,rfl,hk,hil,FL,HSA,HP,TM,K⟩:=hrel;have HTL:=ι (FL.out.tl hn2 hgl);have HIL:=ι hil;have HI256:=ι (show i<256 by have:=HTL.out.2; omega);obtain ⟨la,lc,hls⟩:=Rg.row_shape TM.out.ls;subst hls
      by_cases hki:k≤i
      case neg =>
       have hke:k=i+1:=by omega
       subst hke;have hi256:=HI256.out;go_upto_region 10 with (fail);refine Rg.wl ?_;refine Rg.lm 33 (.int .i64 (((i+1):Nat):Int)) ?_;go_frame;refine Rg.lm 34 (.int .i64 ((i:Nat):Int)) ?_;go_frame;refine Rg.lr 35 (exec_bin (R:=.bool false) .leq _ _ _ rfl rfl rfl (b_leq _ Rg.dF)) ?_;go_frame;go_upto_region 8 with (fail);refine Rg.wl ?_;refine Rg.lm 31 (.int .i64 ((i:Nat):Int)) ?_;go_frame;refine Rg.lr 32 (exec_bin (R:=.int .i64 (((i+1):Nat):Int)) .add _ _ _ rfl rfl rfl (b_add _ (by omega) (by omega))) ?_;go_frame;refine Rg.la 6 (.int .i64 (((i+1):Nat):Int)) ?_;go_frame;have HP2:=ι HP.out.row;go_wp2
       go_roundw
       case rel=>exact ⟨i+1,_,_,_,_,_,_,by go_num,HIL.out,FL,HSA,HP2,TM,K⟩
       case measure=>simp [intOf]; have:=HI256.out; omega
      case pos =>
       have HKL:=ι (show k<es1.length by omega);have HKI:=ι hki;obtain ⟨lg,lcc,e1,hca⟩:=TM.out.at HIL.out;simp only [Value.slice.injEq,true_and] at e1;obtain ⟨rfl,rfl⟩:=e1;obtain ⟨lg2,lcc2,e1,hcb⟩:=TM.out.at HKL.out;simp only [Value.slice.injEq,Option.some.injEq,Addr.mk.injEq,and_true,true_and] at e1;obtain ⟨rfl,rfl⟩:=e1;obtain ⟨ea,hea⟩:∃ e,Hid (es1[i]'HIL.out=e):=⟨_,ι rfl⟩;obtain ⟨eb,heb⟩:∃ e,Hid (es1[k]'HKL.out=e):=⟨_,ι rfl⟩;rw [hea.out] at hca;rw [heb.out] at hcb;obtain ⟨ba,hba⟩:∃ b,Hid (ea.b=b):=⟨_,ι rfl⟩;obtain ⟨bb,hbb⟩:∃ b,Hid (eb.b=b):=⟨_,ι rfl⟩;have CA:=ι (show CL wr lg (0+i) (.pointer (some ⟨ba,0,none⟩)) by rw [← hba.out]; exact hca);have CB:=ι (show CL wr lg (0+k) (.pointer (some ⟨bb,0,none⟩)) by rw [← hbb.out]; exact hcb);obtain ⟨xa,hxa⟩:∃ b,Hid (ea.x=b):=⟨_,ι rfl⟩;obtain ⟨xb,hxb⟩:∃ b,Hid (eb.x=b):=⟨_,ι rfl⟩
       obtain ⟨ka,hka⟩:∃ b,Hid (ea.at_=b):=⟨_,ι rfl⟩;obtain ⟨kb,hkb⟩:∃ b,Hid (eb.at_=b):=⟨_,ι rfl⟩;have MA:=ι (show ∃ e∈es1,e.b=ba∧e.x=xa∧e.at_=ka from ⟨ea,hea.out▸List.getElem_mem HIL.out,hba.out,hxa.out,hka.out⟩);have MB:=ι (show ∃ e∈es1,e.b=bb∧e.x=xb∧e.at_=kb from ⟨eb,heb.out▸List.getElem_mem HKL.out,hbb.out,hxb.out,hkb.out⟩);have HXA:=ι (show (es1.map (·.x))[i]?=some xa by rw [List.getElem?_map,List.getElem?_eq_getElem HIL.out,hea.out,← hxa.out]; rfl);have HXB:=ι (show (es1.map (·.x))[k]?=some xb by rw [List.getElem?_map,List.getElem?_eq_getElem HKL.out,heb.out,← hxb.out]; rfl);clear hca hcb hea heb hba hbb hxa hxb hka hkb;go_upto_region 10 with (fail);refine Rg.wl ?_;refine Rg.lm 33 (.int .i64 ((k:Nat):Int)) ?_;go_frame;refine Rg.lm 34 (.int .i64 ((i:Nat):Int)) ?_;go_frame;refine Rg.lr 35 (exec_bin (R:=.bool true) .leq _ _ _ rfl rfl rfl (b_leq _ Rg.dT)) ?_;go_frame
       have HCA:=ι ((show Below wr.heap.size wr wr.drew from (Below.refl _ _).drew).cell (p:=⟨lg,0+i,none⟩) CA.out.lt);have HCB:=ι ((show Below wr.heap.size wr wr.drew from (Below.refl _ _).drew).cell (p:=⟨lg,0+k,none⟩) CB.out.lt);go_upto_region 12 with (fail);have hV0:Below wr.heap.size wr wr.drew:=(Below.refl _ _).drew;replace TM:=ι (TM.out.up hV0);replace K:=ι (K.out.up hV0);generalize Fup F1 wr wr.drew=F1 at *;clear hV0;refine Rg.Any.begin (S:=Rg.Both 15 (fun W:World=>W.cell? ⟨tb,4,none⟩=some (.slice (some ⟨lg,0,none⟩) es1.length lc)∧W.cell? ⟨lg,0+i,none⟩=some (.pointer (some ⟨ba,0,none⟩))∧W.cell? ⟨lg,0+k,none⟩=some (.pointer (some ⟨bb,0,none⟩))) (fun _=>True)) mix ?_;generalize wr.drew=w102 at *;have hS:∀ (l:Array Bool) W,(fun W:World=>W.cell? ⟨tb,4,none⟩=some (.slice (some ⟨lg,0,none⟩) es1.length lc)∧W.cell? ⟨lg,0+i,none⟩=some (.pointer (some ⟨ba,0,none⟩))∧W.cell? ⟨lg,0+k,none⟩=some (.pointer (some ⟨bb,0,none⟩))) W→Rg.Both 15 (fun W:World=>W.cell? ⟨tb,4,none⟩=some (.slice (some ⟨lg,0,none⟩) es1.length lc)∧W.cell? ⟨lg,0+i,none⟩=some (.pointer (some ⟨ba,0,none⟩))∧W.cell? ⟨lg,0+k,none⟩=some (.pointer (some ⟨bb,0,none⟩))) (fun _=>True) l W:=fun l W h=>⟨.inr h,trivial⟩
       have hS2:∀ (l:Array Bool) W,l.getD 15 false=true→Rg.Both 15 (fun W:World=>W.cell? ⟨tb,4,none⟩=some (.slice (some ⟨lg,0,none⟩) es1.length lc)∧W.cell? ⟨lg,0+i,none⟩=some (.pointer (some ⟨ba,0,none⟩))∧W.cell? ⟨lg,0+k,none⟩=some (.pointer (some ⟨bb,0,none⟩))) (fun _=>True) l W:=fun l W h=>⟨.inl h,trivial⟩;have hI:(fun W:World=>W.cell? ⟨tb,4,none⟩=some (.slice (some ⟨lg,0,none⟩) es1.length lc)∧W.cell? ⟨lg,0+i,none⟩=some (.pointer (some ⟨ba,0,none⟩))∧W.cell? ⟨lg,0+k,none⟩=some (.pointer (some ⟨bb,0,none⟩))) w102:=⟨TM.out.h4.c,HCA.out.trans CA.out.cell,HCB.out.trans CB.out.cell⟩;refine Rg.tm 0 15 (.pointer (some ⟨tb,0,none⟩)) 38 (hS _ _ hI) ?_;go_frame;refine Rg.tg 1 15 (.pointer (some ⟨tb,0,none⟩)) 39 rfl rfl (.inl ⟨rfl,fun w _=>exec_nil _ rfl rfl⟩) (hS _ _ hI) ?_;go_frame;refine Rg.tg 2 15 (.pointer (some ⟨tb,4,none⟩)) 40 rfl rfl (.inl ⟨rfl,fun w _=>exec_field _ rfl rfl (tblF3 _ _)⟩) (hS _ _ hI) ?_;go_frame
       refine Rg.Any.takeT (i:=3) (t:=15) (v:=.slice (some ⟨lg,0,none⟩) es1.length lc) (some 41) rfl rfl (by kernel_rfl) (by kernel_rfl) (by kernel_rfl) (fun _ _ _ h=>h) rfl (by kernel_rfl) rfl (Rg.yields_cell _ _ rfl rfl ⟨tb,4,none⟩ rfl (fun W hW=>Rg.run_loadSl _ _ Tryz.underlying102 hW.1)) (hS _ _ hI) ?_;go_frame;refine Rg.tm 4 15 (.int .i64 ((i:Nat):Int)) 42 (hS _ _ hI) ?_;go_frame;refine Rg.tg 5 15 (.pointer (some ⟨lg,0+i,none⟩)) 43 rfl rfl (Rg.yields_index slEnts _ _ rfl rfl lg (0) (es1.length) lc (i) rfl rfl HIL.out) (hS _ _ hI) ?_;go_frame;refine Rg.Any.takeT (i:=6) (t:=15) (v:=.pointer (some ⟨ba,0,none⟩)) (some 44) rfl rfl (by kernel_rfl) (by kernel_rfl) (by kernel_rfl) (fun _ _ _ h=>h) rfl (by kernel_rfl) rfl (Rg.yields_cell _ _ rfl rfl ⟨lg,0+i,none⟩ rfl (fun W hW=>Rg.run_loadPtr _ _ Tryz.underlying110 hW.2.1)) (hS _ _ hI) ?_;go_frame;refine Rg.tm 7 15 (.pointer (some ⟨tb,0,none⟩)) 45 (hS _ _ hI) ?_;go_frame
       refine Rg.tg 8 15 (.pointer (some ⟨tb,0,none⟩)) 46 rfl rfl (.inl ⟨rfl,fun w _=>exec_nil _ rfl rfl⟩) (hS _ _ hI) ?_;go_frame;refine Rg.tg 9 15 (.pointer (some ⟨tb,4,none⟩)) 47 rfl rfl (.inl ⟨rfl,fun w _=>exec_field _ rfl rfl (tblF3 _ _)⟩) (hS _ _ hI) ?_;go_frame;refine Rg.Any.takeT (i:=10) (t:=15) (v:=.slice (some ⟨lg,0,none⟩) es1.length lc) (some 48) rfl rfl (by kernel_rfl) (by kernel_rfl) (by kernel_rfl) (fun _ _ _ h=>h) rfl (by kernel_rfl) rfl (Rg.yields_cell _ _ rfl rfl ⟨tb,4,none⟩ rfl (fun W hW=>Rg.run_loadSl _ _ Tryz.underlying102 hW.1)) (hS _ _ hI) ?_;go_frame;refine Rg.tm 11 15 (.int .i64 ((k:Nat):Int)) 49 (hS _ _ hI) ?_;go_frame;refine Rg.tg 12 15 (.pointer (some ⟨lg,0+k,none⟩)) 50 rfl rfl (Rg.yields_index slEnts _ _ rfl rfl lg (0) (es1.length) lc (k) rfl rfl HKL.out) (hS _ _ hI) ?_;go_frame;refine Rg.Any.takeT (i:=13) (t:=15) (v:=.pointer (some ⟨bb,0,none⟩)) (some 51) rfl rfl (by kernel_rfl) (by kernel_rfl) (by kernel_rfl) (fun _ _ _ h=>h) rfl (by kernel_rfl) rfl (Rg.yields_cell _ _ rfl rfl ⟨lg,0+k,none⟩ rfl (fun W hW=>Rg.run_loadPtr _ _ Tryz.underlying110 hW.2.2)) (hS _ _ hI) ?_;go_frame
       refine Rg.tg 14 15 (.pointer (some ⟨ba,0,none⟩)) 8 rfl rfl (.inl ⟨rfl,fun w _=>Rg.exec_assign (v:=.pointer (some ⟨ba,0,none⟩)) _ rfl rfl⟩) (hS _ _ hI) ?_;go_frame;refine Rg.Any.one (i:=15) (by kernel_rfl) (Rg.Any.run (some 9) rfl rfl rfl (Rg.xa (.pointer (some ⟨bb,0,none⟩)) _ rfl rfl) (hS2 _ _ rfl) ?_);go_frame;refine Rg.Any.done (by kernel_rfl) ?_ _;clear hS2;clear hS hI;clear CA CB HCA HCB;go_upto_region 13 with (fail);have hV1:Below w102.heap.size w102 w102.drew:=(Below.refl _ _).drew;replace TM:=ι (TM.out.up hV1);replace K:=ι (K.out.up hV1);clear hV1;generalize Fup F1 w102 w102.drew=FVp at *;obtain ⟨eap,heap,habp,haxp,hakp⟩:=MA.out;obtain ⟨ebp,hebp,hbbp,hbxp,hbkp⟩:=MB.out;obtain ⟨vap,yap,qap⟩:=TM.out.en _ heap;obtain ⟨vbp,ybp,qbp⟩:=TM.out.en _ hebp;have EA:=ι (show Cw w102.drew ba 0 vap by rw [← habp]; exact qap.c0);have EB:=ι (show Cw w102.drew bb 0 vbp by rw [← hbbp]; exact qbp.c0)
       have AA:=ι (show Cw w102.drew ba 2 (.int .i64 ((ka:Nat):Int)) by rw [← habp,← hakp]; exact qap.c2);have AB:=ι (show Cw w102.drew bb 2 (.int .i64 ((kb:Nat):Int)) by rw [← hbbp,← hbkp]; exact qbp.c2);have XA:=ι (show FP FVp w102.drew vap xa by rw [← haxp]; exact qap.x);have XB:=ι (show FP FVp w102.drew vbp xb by rw [← hbxp]; exact qbp.x);have GXA:=ι (show Cm.Gd N xa by rw [← haxp]; exact (FL.out.tb.en _ heap).gd);have GXB:=ι (show Cm.Gd N xb by rw [← hbxp]; exact (FL.out.tb.en _ hebp).gd);have HTA:=ι (show T1[ka]?=some xa by rw [← haxp,← hakp]; exact (FL.out.tb.en _ heap).at_);have HTB:=ι (show T1[kb]?=some xb by rw [← hbxp,← hbkp]; exact (FL.out.tb.en _ hebp).at_)
       have HGR:=ι (show Cm.Gr N (·∈gs) (Ma.mulN xa xb) from by
        have key:=fun e (he:e∈es1)=>((FL.out.tb.le HSA.out).gr (List.mem_map_of_mem he)).1;rw [← haxp,← hbxp]
        exact HGI.out.mul _ _ (key _ heap) (key _ hebp))
       clear qap qbp heap hebp habp haxp hakp hbbp hbxp hbkp;refine Rg.Any.begin (S:=Rg.Tw 9 (fun W:World=>W.cell? ⟨ba,0,none⟩=some vap∧W.cell? ⟨bb,0,none⟩=some vbp) 18 (fun W:World=>W.cell? ⟨ba,2,none⟩=some (.int .i64 ((ka:Nat):Int))∧W.cell? ⟨bb,2,none⟩=some (.int .i64 ((kb:Nat):Int)))) mix ?_;generalize w102.drew=w103 at *
       have hSB:∀ (l:Array Bool) W,Below w103.heap.size w103 W→Rg.Tw 9 (fun W:World=>W.cell? ⟨ba,0,none⟩=some vap∧W.cell? ⟨bb,0,none⟩=some vbp) 18 (fun W:World=>W.cell? ⟨ba,2,none⟩=some (.int .i64 ((ka:Nat):Int))∧W.cell? ⟨bb,2,none⟩=some (.int .i64 ((kb:Nat):Int))) l W:=fun l W h =>
        ⟨.inr ⟨(h.cell (p:=⟨ba,0,none⟩) EA.out.lt).trans EA.out.c,(h.cell (p:=⟨bb,0,none⟩) EB.out.lt).trans EB.out.c⟩,.inr ⟨(h.cell (p:=⟨ba,2,none⟩) AA.out.lt).trans AA.out.c,(h.cell (p:=⟨bb,2,none⟩) AB.out.lt).trans AB.out.c⟩⟩
       have hS:∀ l:Array Bool,Rg.Tw 9 (fun W:World=>W.cell? ⟨ba,0,none⟩=some vap∧W.cell? ⟨bb,0,none⟩=some vbp) 18 (fun W:World=>W.cell? ⟨ba,2,none⟩=some (.int .i64 ((ka:Nat):Int))∧W.cell? ⟨bb,2,none⟩=some (.int .i64 ((kb:Nat):Int))) l w103:=fun l=>hSB l _ (Below.refl _ _);refine Rg.Any.takeP (i:=0) (t:=9) (u:=18) (v:=.pointer (some ⟨tb,0,none⟩)) (some 52) rfl rfl (by kernel_rfl) (by kernel_rfl) (by kernel_rfl) (fun _ _ _ h=>h) rfl rfl (.inl ⟨rfl,fun w _=>Rg.exec_move (v:=.pointer (some ⟨tb,0,none⟩)) _ rfl rfl⟩) (hS _) ?_;go_frame;refine Rg.Any.takeP (i:=1) (t:=9) (u:=18) (v:=.pointer (some ⟨ba,0,none⟩)) (some 53) rfl rfl (by kernel_rfl) (by kernel_rfl) (by kernel_rfl) (fun _ _ _ h=>h) rfl rfl (.inl ⟨rfl,fun w _=>Rg.exec_move (v:=.pointer (some ⟨ba,0,none⟩)) _ rfl rfl⟩) (hS _) ?_;go_frame;refine Rg.Any.takeP (i:=2) (t:=9) (u:=18) (v:=.pointer (some ⟨ba,0,none⟩)) (some 54) rfl rfl (by kernel_rfl) (by kernel_rfl) (by kernel_rfl) (fun _ _ _ h=>h) rfl rfl (.inl ⟨rfl,fun w _=>exec_nil _ rfl rfl⟩) (hS _) ?_;go_frame
       refine Rg.Any.takeP (i:=3) (t:=9) (u:=18) (v:=.pointer (some ⟨ba,0,none⟩)) (some 55) rfl rfl (by kernel_rfl) (by kernel_rfl) (by kernel_rfl) (fun _ _ _ h=>h) rfl rfl (.inl ⟨rfl,fun w _=>exec_field _ rfl rfl (enF0 _ _)⟩) (hS _) ?_;go_frame;refine Rg.Any.takeA (i:=4) (t:=9) (u:=18) (v:=vap) (some 56) rfl rfl (by kernel_rfl) (by kernel_rfl) (by kernel_rfl) (fun _ _ _ h=>h) rfl rfl (by kernel_rfl) rfl (Rg.yields_cell _ _ rfl rfl ⟨ba,0,none⟩ rfl (fun W hW=>Rg.run_loadSl _ _ Tryz.underlying30 hW.1)) (hS _) ?_;go_frame;refine Rg.Any.takeP (i:=5) (t:=9) (u:=18) (v:=.pointer (some ⟨bb,0,none⟩)) (some 57) rfl rfl (by kernel_rfl) (by kernel_rfl) (by kernel_rfl) (fun _ _ _ h=>h) rfl rfl (.inl ⟨rfl,fun w _=>Rg.exec_move (v:=.pointer (some ⟨bb,0,none⟩)) _ rfl rfl⟩) (hS _) ?_;go_frame;refine Rg.Any.takeP (i:=6) (t:=9) (u:=18) (v:=.pointer (some ⟨bb,0,none⟩)) (some 58) rfl rfl (by kernel_rfl) (by kernel_rfl) (by kernel_rfl) (fun _ _ _ h=>h) rfl rfl (.inl ⟨rfl,fun w _=>exec_nil _ rfl rfl⟩) (hS _) ?_;go_frame
       refine Rg.Any.takeP (i:=7) (t:=9) (u:=18) (v:=.pointer (some ⟨bb,0,none⟩)) (some 59) rfl rfl (by kernel_rfl) (by kernel_rfl) (by kernel_rfl) (fun _ _ _ h=>h) rfl rfl (.inl ⟨rfl,fun w _=>exec_field _ rfl rfl (enF0 _ _)⟩) (hS _) ?_;go_frame;refine Rg.Any.takeA (i:=8) (t:=9) (u:=18) (v:=vbp) (some 60) rfl rfl (by kernel_rfl) (by kernel_rfl) (by kernel_rfl) (fun _ _ _ h=>h) rfl rfl (by kernel_rfl) rfl (Rg.yields_cell _ _ rfl rfl ⟨bb,0,none⟩ rfl (fun W hW=>Rg.run_loadSl _ _ Tryz.underlying30 hW.2)) (hS _) ?_;go_frame;refine Rg.Any.takeP (i:=10) (t:=9) (u:=18) (v:=.pointer (some ⟨ba,0,none⟩)) (some 62) rfl rfl (by kernel_rfl) (by kernel_rfl) (by kernel_rfl) (fun _ _ _ h=>h) rfl rfl (.inl ⟨rfl,fun w _=>Rg.exec_move (v:=.pointer (some ⟨ba,0,none⟩)) _ rfl rfl⟩) (hS _) ?_;go_frame;refine Rg.Any.takeP (i:=11) (t:=9) (u:=18) (v:=.pointer (some ⟨ba,0,none⟩)) (some 63) rfl rfl (by kernel_rfl) (by kernel_rfl) (by kernel_rfl) (fun _ _ _ h=>h) rfl rfl (.inl ⟨rfl,fun w _=>exec_nil _ rfl rfl⟩) (hS _) ?_;go_frame
       refine Rg.Any.takeP (i:=12) (t:=9) (u:=18) (v:=.pointer (some ⟨ba,2,none⟩)) (some 64) rfl rfl (by kernel_rfl) (by kernel_rfl) (by kernel_rfl) (fun _ _ _ h=>h) rfl rfl (.inl ⟨rfl,fun w _=>exec_field _ rfl rfl (enF2 _ _)⟩) (hS _) ?_;go_frame;refine Rg.Any.takeB (i:=13) (t:=9) (u:=18) (v:=.int .i64 ((ka:Nat):Int)) (some 65) rfl rfl (by kernel_rfl) (by kernel_rfl) (by kernel_rfl) (fun _ _ _ h=>h) rfl rfl (by kernel_rfl) rfl (Rg.yields_cell _ _ rfl rfl ⟨ba,2,none⟩ rfl (fun W hW=>run_loadInt hW.1)) (hS _) ?_;go_frame;refine Rg.Any.takeP (i:=14) (t:=9) (u:=18) (v:=.pointer (some ⟨bb,0,none⟩)) (some 66) rfl rfl (by kernel_rfl) (by kernel_rfl) (by kernel_rfl) (fun _ _ _ h=>h) rfl rfl (.inl ⟨rfl,fun w _=>Rg.exec_move (v:=.pointer (some ⟨bb,0,none⟩)) _ rfl rfl⟩) (hS _) ?_;go_frame;refine Rg.Any.takeP (i:=15) (t:=9) (u:=18) (v:=.pointer (some ⟨bb,0,none⟩)) (some 67) rfl rfl (by kernel_rfl) (by kernel_rfl) (by kernel_rfl) (fun _ _ _ h=>h) rfl rfl (.inl ⟨rfl,fun w _=>exec_nil _ rfl rfl⟩) (hS _) ?_;go_frame
       refine Rg.Any.takeP (i:=16) (t:=9) (u:=18) (v:=.pointer (some ⟨bb,2,none⟩)) (some 68) rfl rfl (by kernel_rfl) (by kernel_rfl) (by kernel_rfl) (fun _ _ _ h=>h) rfl rfl (.inl ⟨rfl,fun w _=>exec_field _ rfl rfl (enF2 _ _)⟩) (hS _) ?_;go_frame;refine Rg.Any.takeB (i:=17) (t:=9) (u:=18) (v:=.int .i64 ((kb:Nat):Int)) (some 69) rfl rfl (by kernel_rfl) (by kernel_rfl) (by kernel_rfl) (fun _ _ _ h=>h) rfl rfl (by kernel_rfl) rfl (Rg.yields_cell _ _ rfl rfl ⟨bb,2,none⟩ rfl (fun W hW=>run_loadInt hW.2)) (hS _) ?_;go_frame;refine duo2 (i:=9) (j:=18) (di:=61) (dj:=70) (I:=fun W=>Below w103.heap.size w103 W) (R1:=fun u W=>Rg.NPF w103 W u (Ma.mulN xa xb)) (R2:=fun v W=>v=.slice (some ⟨w103.heap.size,0,none⟩) 2 2∧W=w103.alloc (.cells #[.int .i64 ((ka:Nat):Int),.int .i64 ((kb:Nat):Int)] 3)) (R:=fun u v W=>NewPI FVp w103 (Ma.mulN xa xb) ((ka:Nat):Int) ((kb:Nat):Int) u v W) hSB (by decide) (by decide) (by kernel_rfl) (by kernel_rfl) (by kernel_rfl) ?_ ?_ ?_ ?_ ?_
       ·refine dCall rfl rfl rfl _ _ (exec_fn 44 _ _ _ rfl rfl rfl (Bgcl6 _ _)) ?_
        refine (fcMul_any _ _ xa xb w103 XA.out.np XB.out.np (fun q hq=>by rw [GXB.out.2]; exact gd_mem GXA.out hq) (by rw [GXA.out.2]; omega) (by rw [GXA.out.2]; exact hn1) (by rw [GXB.out.2]; exact hn1)).mono ?_;rintro e1 W ⟨u,rfl,hu,hb⟩;exact ⟨u,rfl,hb,hu⟩
       ·intro u W hI hu
        have hn:Below W.heap.size W (W.alloc (.cells #[.int .i64 ((ka:Nat):Int),.int .i64 ((kb:Nat):Int)] 3)):=(Below.refl _ _).alloc (Nat.le_refl _) _;exact dRun rfl rfl rfl (exec_buildSlice2 _ _ _ _ rfl rfl rfl (run_build2N W _ _)) (Rg.acc hI hn) (NewPI.one hu.1 hu.2 (by rw [Ma.len_mulN,GXA.out.2]; exact hn1) hI _ _)
       ·have hn:Below w103.heap.size w103 (w103.alloc (.cells #[.int .i64 ((ka:Nat):Int),.int .i64 ((kb:Nat):Int)] 3)):=(Below.refl _ _).alloc (Nat.le_refl _) _
        exact dRun rfl rfl rfl (exec_buildSlice2 _ _ _ _ rfl rfl rfl (run_build2N w103 _ _)) hn ⟨rfl,rfl⟩
       ·rintro v W hI ⟨rfl,rfl⟩
        refine dCall rfl rfl rfl _ _ (exec_fn 44 _ _ _ rfl rfl rfl (Bgcl6 _ _)) ?_;refine (fcMul_any _ _ xa xb _ (Rg.NP.below XA.out.np hI) (Rg.NP.below XB.out.np hI) (fun q hq=>by rw [GXB.out.2]; exact gd_mem GXA.out hq) (by rw [GXA.out.2]; omega) (by rw [GXA.out.2]; exact hn1) (by rw [GXB.out.2]; exact hn1)).mono ?_;rintro e1 W ⟨u,rfl,hu,hb⟩;exact ⟨u,rfl,Rg.acc hI hb,NewPI.two _ _ hu (by rw [Ma.len_mulN,GXA.out.2]; exact hn1) hb⟩
       rintro W8 u8 v8 hI hnw;have TM8:=ι (NewPI.tm TM.out hI hnw);have RW8:=ι (hnw.rw hI TM.out.Flt TM.out.Mlt)
       have K8:=ι (K.out.grow (P:=fun k=>v8.ownBlock=some k) (Q:=fun k=>u8.ownBlock=some k) hI hnw.1 (fun k e=>by
        obtain ⟨_,_,g,rfl,hg,_,_⟩:=hnw
        exact Nat.le_trans hg (own_eq e)))
       have X8:=ι hnw.2.1;clear hnw TM K EA EB AA AB XA XB hS;go_frame;have hS8:=hSB;refine Rg.Any.one (i:=19) (by kernel_rfl) (Rg.Any.ask (some 71) rfl rfl rfl _ _ (exec_fn3 91 _ _ _ _ rfl rfl rfl rfl (Dicl0 _ _)) ?_)
       refine (insert_t (parts:=[ka,kb]) HG.out FL.out.tb TM8.out hn1 hn2 X8.out HGR.out RW8.out ⟨Nat.le_succ _,Nat.le_refl _⟩ (fun q hq=>by
        rcases List.mem_cons.1 hq with hq | hq
        ·exact ⟨_,by rw [hq]; exact HTA.out⟩
        ·rw [List.mem_singleton] at hq; exact ⟨_,by rw [hq]; exact HTB.out⟩) (by show Ma.mulN (T1.getD ka []) (T1.getD kb [])=_; rw [List.getD_eq_getElem?_getD,List.getD_eq_getElem?_getD,HTA.out,HTB.out]; rfl) HTL.out.1).mono ?_
       rintro e1 W9p ⟨F9p,sv9p,lv9p,S9p,T9p,es9p,rfl,hin9,hT9,hg9⟩;refine ⟨_,rfl,⟨.inl rfl,.inl rfl⟩,?_⟩;go_frame;refine Rg.Any.done (by kernel_rfl) ?_ _;have FL9:=ι (FL.out.ins hin9);have HSA9:=ι (show ∀ s,s∈gs→Cm.Sd N (Cm.idT N (trE es9p)) N s from fun s hs=>Cm.Sd.mono (fun a b u _=>hin9.mono a b u) (HSA.out s hs));have TM9:=ι hT9;have K9:=ι (K8.out.trans hg9);have MA9:=ι (hin9.mem MA.out);have MB9:=ι (hin9.mem MB.out);have HLE9:=ι hin9.len;have HPR:=ι (hin9.pr HXA.out HXB.out rfl);have HPP:=ι (hin9.pp HP.out HIL.out HKI.out)
       have HXA9:=ι (show (es9p.map (·.x))[i]?=some xa by
        obtain ⟨m,hm⟩:=hin9.xs
        rw [hm,List.getElem?_append_left (List.getElem?_eq_some_iff.1 HXA.out).1]; exact HXA.out)
       have HXB9:=ι (show (es9p.map (·.x))[k]?=some xb by
        obtain ⟨m,hm⟩:=hin9.xs
        rw [hm,List.getElem?_append_left (List.getElem?_eq_some_iff.1 HXB.out).1]; exact HXB.out)
       have HTL9:=ι (FL9.out.tl hn2 hgl);have HIL9:=ι (show i<es9p.length by have:=HLE9.out; have:=HIL.out; omega);clear hT9 hg9 hin9 FL HSA TM8 K8 RW8 X8 MA MB HXA HXB HTL HIL HP hI hSB hS8 GXA GXB HTA HTB HGR HLE9;have HP:=ι (HPP.out.step0 HPR.out);have FL:=FL9;have HSA:=HSA9;have TM:=TM9;have K:=K9;have MA:=MA9;have MB:=MB9;have HXA:=HXA9;have HXB:=HXB9;have HTL:=HTL9;have HIL:=HIL9;clear FL9 HSA9 TM9 K9 MA9 MB9 HXA9 HXB9 HTL9 HIL9 HPP HPR;go_upto_region 14 with (fail);have hV1:Below W9p.heap.size W9p W9p.drew:=(Below.refl _ _).drew;replace TM:=ι (TM.out.up hV1);replace K:=ι (K.out.up hV1);clear hV1;generalize Fup F9p W9p W9p.drew=FVq at *;obtain ⟨eaq,heaq,habq,haxq,hakq⟩:=MB.out;obtain ⟨ebq,hebq,hbbq,hbxq,hbkq⟩:=MA.out;obtain ⟨vaq,yaq,qaq⟩:=TM.out.en _ heaq;obtain ⟨vbq,ybq,qbq⟩:=TM.out.en _ hebq;have EA:=ι (show Cw W9p.drew bb 0 vaq by rw [← habq]; exact qaq.c0)
       have EB:=ι (show Cw W9p.drew ba 0 vbq by rw [← hbbq]; exact qbq.c0);have AA:=ι (show Cw W9p.drew bb 2 (.int .i64 ((kb:Nat):Int)) by rw [← habq,← hakq]; exact qaq.c2);have AB:=ι (show Cw W9p.drew ba 2 (.int .i64 ((ka:Nat):Int)) by rw [← hbbq,← hbkq]; exact qbq.c2);have XA:=ι (show FP FVq W9p.drew vaq xb by rw [← haxq]; exact qaq.x);have XB:=ι (show FP FVq W9p.drew vbq xa by rw [← hbxq]; exact qbq.x);have GXA:=ι (show Cm.Gd N xb by rw [← haxq]; exact (FL.out.tb.en _ heaq).gd);have GXB:=ι (show Cm.Gd N xa by rw [← hbxq]; exact (FL.out.tb.en _ hebq).gd);have HTA:=ι (show T9p[kb]?=some xb by rw [← haxq,← hakq]; exact (FL.out.tb.en _ heaq).at_);have HTB:=ι (show T9p[ka]?=some xa by rw [← hbxq,← hbkq]; exact (FL.out.tb.en _ hebq).at_)
       have HGR:=ι (show Cm.Gr N (·∈gs) (Ma.mulN xb xa) from by
        have key:=fun e (he:e∈es9p)=>((FL.out.tb.le HSA.out).gr (List.mem_map_of_mem he)).1;rw [← haxq,← hbxq]
        exact HGI.out.mul _ _ (key _ heaq) (key _ hebq))
       clear qaq qbq heaq hebq habq haxq hakq hbbq hbxq hbkq;refine Rg.Any.begin (S:=Rg.Tw 9 (fun W:World=>W.cell? ⟨bb,0,none⟩=some vaq∧W.cell? ⟨ba,0,none⟩=some vbq) 18 (fun W:World=>W.cell? ⟨bb,2,none⟩=some (.int .i64 ((kb:Nat):Int))∧W.cell? ⟨ba,2,none⟩=some (.int .i64 ((ka:Nat):Int)))) mix ?_;generalize W9p.drew=w124 at *
       have hSB:∀ (l:Array Bool) W,Below w124.heap.size w124 W→Rg.Tw 9 (fun W:World=>W.cell? ⟨bb,0,none⟩=some vaq∧W.cell? ⟨ba,0,none⟩=some vbq) 18 (fun W:World=>W.cell? ⟨bb,2,none⟩=some (.int .i64 ((kb:Nat):Int))∧W.cell? ⟨ba,2,none⟩=some (.int .i64 ((ka:Nat):Int))) l W:=fun l W h =>
        ⟨.inr ⟨(h.cell (p:=⟨bb,0,none⟩) EA.out.lt).trans EA.out.c,(h.cell (p:=⟨ba,0,none⟩) EB.out.lt).trans EB.out.c⟩,.inr ⟨(h.cell (p:=⟨bb,2,none⟩) AA.out.lt).trans AA.out.c,(h.cell (p:=⟨ba,2,none⟩) AB.out.lt).trans AB.out.c⟩⟩
       have hS:∀ l:Array Bool,Rg.Tw 9 (fun W:World=>W.cell? ⟨bb,0,none⟩=some vaq∧W.cell? ⟨ba,0,none⟩=some vbq) 18 (fun W:World=>W.cell? ⟨bb,2,none⟩=some (.int .i64 ((kb:Nat):Int))∧W.cell? ⟨ba,2,none⟩=some (.int .i64 ((ka:Nat):Int))) l w124:=fun l=>hSB l _ (Below.refl _ _);refine Rg.Any.takeP (i:=0) (t:=9) (u:=18) (v:=.pointer (some ⟨tb,0,none⟩)) (some 72) rfl rfl (by kernel_rfl) (by kernel_rfl) (by kernel_rfl) (fun _ _ _ h=>h) rfl rfl (.inl ⟨rfl,fun w _=>Rg.exec_move (v:=.pointer (some ⟨tb,0,none⟩)) _ rfl rfl⟩) (hS _) ?_;go_frame;refine Rg.Any.takeP (i:=1) (t:=9) (u:=18) (v:=.pointer (some ⟨bb,0,none⟩)) (some 73) rfl rfl (by kernel_rfl) (by kernel_rfl) (by kernel_rfl) (fun _ _ _ h=>h) rfl rfl (.inl ⟨rfl,fun w _=>Rg.exec_move (v:=.pointer (some ⟨bb,0,none⟩)) _ rfl rfl⟩) (hS _) ?_;go_frame;refine Rg.Any.takeP (i:=2) (t:=9) (u:=18) (v:=.pointer (some ⟨bb,0,none⟩)) (some 74) rfl rfl (by kernel_rfl) (by kernel_rfl) (by kernel_rfl) (fun _ _ _ h=>h) rfl rfl (.inl ⟨rfl,fun w _=>exec_nil _ rfl rfl⟩) (hS _) ?_;go_frame
       refine Rg.Any.takeP (i:=3) (t:=9) (u:=18) (v:=.pointer (some ⟨bb,0,none⟩)) (some 75) rfl rfl (by kernel_rfl) (by kernel_rfl) (by kernel_rfl) (fun _ _ _ h=>h) rfl rfl (.inl ⟨rfl,fun w _=>exec_field _ rfl rfl (enF0 _ _)⟩) (hS _) ?_;go_frame;refine Rg.Any.takeA (i:=4) (t:=9) (u:=18) (v:=vaq) (some 76) rfl rfl (by kernel_rfl) (by kernel_rfl) (by kernel_rfl) (fun _ _ _ h=>h) rfl rfl (by kernel_rfl) rfl (Rg.yields_cell _ _ rfl rfl ⟨bb,0,none⟩ rfl (fun W hW=>Rg.run_loadSl _ _ Tryz.underlying30 hW.1)) (hS _) ?_;go_frame;refine Rg.Any.takeP (i:=5) (t:=9) (u:=18) (v:=.pointer (some ⟨ba,0,none⟩)) (some 77) rfl rfl (by kernel_rfl) (by kernel_rfl) (by kernel_rfl) (fun _ _ _ h=>h) rfl rfl (.inl ⟨rfl,fun w _=>Rg.exec_move (v:=.pointer (some ⟨ba,0,none⟩)) _ rfl rfl⟩) (hS _) ?_;go_frame;refine Rg.Any.takeP (i:=6) (t:=9) (u:=18) (v:=.pointer (some ⟨ba,0,none⟩)) (some 78) rfl rfl (by kernel_rfl) (by kernel_rfl) (by kernel_rfl) (fun _ _ _ h=>h) rfl rfl (.inl ⟨rfl,fun w _=>exec_nil _ rfl rfl⟩) (hS _) ?_;go_frame
       refine Rg.Any.takeP (i:=7) (t:=9) (u:=18) (v:=.pointer (some ⟨ba,0,none⟩)) (some 79) rfl rfl (by kernel_rfl) (by kernel_rfl) (by kernel_rfl) (fun _ _ _ h=>h) rfl rfl (.inl ⟨rfl,fun w _=>exec_field _ rfl rfl (enF0 _ _)⟩) (hS _) ?_;go_frame;refine Rg.Any.takeA (i:=8) (t:=9) (u:=18) (v:=vbq) (some 80) rfl rfl (by kernel_rfl) (by kernel_rfl) (by kernel_rfl) (fun _ _ _ h=>h) rfl rfl (by kernel_rfl) rfl (Rg.yields_cell _ _ rfl rfl ⟨ba,0,none⟩ rfl (fun W hW=>Rg.run_loadSl _ _ Tryz.underlying30 hW.2)) (hS _) ?_;go_frame;refine Rg.Any.takeP (i:=10) (t:=9) (u:=18) (v:=.pointer (some ⟨bb,0,none⟩)) (some 82) rfl rfl (by kernel_rfl) (by kernel_rfl) (by kernel_rfl) (fun _ _ _ h=>h) rfl rfl (.inl ⟨rfl,fun w _=>Rg.exec_move (v:=.pointer (some ⟨bb,0,none⟩)) _ rfl rfl⟩) (hS _) ?_;go_frame;refine Rg.Any.takeP (i:=11) (t:=9) (u:=18) (v:=.pointer (some ⟨bb,0,none⟩)) (some 83) rfl rfl (by kernel_rfl) (by kernel_rfl) (by kernel_rfl) (fun _ _ _ h=>h) rfl rfl (.inl ⟨rfl,fun w _=>exec_nil _ rfl rfl⟩) (hS _) ?_;go_frame
       refine Rg.Any.takeP (i:=12) (t:=9) (u:=18) (v:=.pointer (some ⟨bb,2,none⟩)) (some 84) rfl rfl (by kernel_rfl) (by kernel_rfl) (by kernel_rfl) (fun _ _ _ h=>h) rfl rfl (.inl ⟨rfl,fun w _=>exec_field _ rfl rfl (enF2 _ _)⟩) (hS _) ?_;go_frame;refine Rg.Any.takeB (i:=13) (t:=9) (u:=18) (v:=.int .i64 ((kb:Nat):Int)) (some 85) rfl rfl (by kernel_rfl) (by kernel_rfl) (by kernel_rfl) (fun _ _ _ h=>h) rfl rfl (by kernel_rfl) rfl (Rg.yields_cell _ _ rfl rfl ⟨bb,2,none⟩ rfl (fun W hW=>run_loadInt hW.1)) (hS _) ?_;go_frame;refine Rg.Any.takeP (i:=14) (t:=9) (u:=18) (v:=.pointer (some ⟨ba,0,none⟩)) (some 86) rfl rfl (by kernel_rfl) (by kernel_rfl) (by kernel_rfl) (fun _ _ _ h=>h) rfl rfl (.inl ⟨rfl,fun w _=>Rg.exec_move (v:=.pointer (some ⟨ba,0,none⟩)) _ rfl rfl⟩) (hS _) ?_;go_frame;refine Rg.Any.takeP (i:=15) (t:=9) (u:=18) (v:=.pointer (some ⟨ba,0,none⟩)) (some 87) rfl rfl (by kernel_rfl) (by kernel_rfl) (by kernel_rfl) (fun _ _ _ h=>h) rfl rfl (.inl ⟨rfl,fun w _=>exec_nil _ rfl rfl⟩) (hS _) ?_;go_frame
       refine Rg.Any.takeP (i:=16) (t:=9) (u:=18) (v:=.pointer (some ⟨ba,2,none⟩)) (some 88) rfl rfl (by kernel_rfl) (by kernel_rfl) (by kernel_rfl) (fun _ _ _ h=>h) rfl rfl (.inl ⟨rfl,fun w _=>exec_field _ rfl rfl (enF2 _ _)⟩) (hS _) ?_;go_frame;refine Rg.Any.takeB (i:=17) (t:=9) (u:=18) (v:=.int .i64 ((ka:Nat):Int)) (some 89) rfl rfl (by kernel_rfl) (by kernel_rfl) (by kernel_rfl) (fun _ _ _ h=>h) rfl rfl (by kernel_rfl) rfl (Rg.yields_cell _ _ rfl rfl ⟨ba,2,none⟩ rfl (fun W hW=>run_loadInt hW.2)) (hS _) ?_;go_frame;refine duo2 (i:=9) (j:=18) (di:=81) (dj:=90) (I:=fun W=>Below w124.heap.size w124 W) (R1:=fun u W=>Rg.NPF w124 W u (Ma.mulN xb xa)) (R2:=fun v W=>v=.slice (some ⟨w124.heap.size,0,none⟩) 2 2∧W=w124.alloc (.cells #[.int .i64 ((kb:Nat):Int),.int .i64 ((ka:Nat):Int)] 3)) (R:=fun u v W=>NewPI FVq w124 (Ma.mulN xb xa) ((kb:Nat):Int) ((ka:Nat):Int) u v W) hSB (by decide) (by decide) (by kernel_rfl) (by kernel_rfl) (by kernel_rfl) ?_ ?_ ?_ ?_ ?_
       ·refine dCall rfl rfl rfl _ _ (exec_fn 44 _ _ _ rfl rfl rfl (Bgcl6 _ _)) ?_
        refine (fcMul_any _ _ xb xa w124 XA.out.np XB.out.np (fun q hq=>by rw [GXB.out.2]; exact gd_mem GXA.out hq) (by rw [GXA.out.2]; omega) (by rw [GXA.out.2]; exact hn1) (by rw [GXB.out.2]; exact hn1)).mono ?_;rintro e1 W ⟨u,rfl,hu,hb⟩;exact ⟨u,rfl,hb,hu⟩
       ·intro u W hI hu
        have hn:Below W.heap.size W (W.alloc (.cells #[.int .i64 ((kb:Nat):Int),.int .i64 ((ka:Nat):Int)] 3)):=(Below.refl _ _).alloc (Nat.le_refl _) _;exact dRun rfl rfl rfl (exec_buildSlice2 _ _ _ _ rfl rfl rfl (run_build2N W _ _)) (Rg.acc hI hn) (NewPI.one hu.1 hu.2 (by rw [Ma.len_mulN,GXA.out.2]; exact hn1) hI _ _)
       ·have hn:Below w124.heap.size w124 (w124.alloc (.cells #[.int .i64 ((kb:Nat):Int),.int .i64 ((ka:Nat):Int)] 3)):=(Below.refl _ _).alloc (Nat.le_refl _) _
        exact dRun rfl rfl rfl (exec_buildSlice2 _ _ _ _ rfl rfl rfl (run_build2N w124 _ _)) hn ⟨rfl,rfl⟩
       ·rintro v W hI ⟨rfl,rfl⟩
        refine dCall rfl rfl rfl _ _ (exec_fn 44 _ _ _ rfl rfl rfl (Bgcl6 _ _)) ?_;refine (fcMul_any _ _ xb xa _ (Rg.NP.below XA.out.np hI) (Rg.NP.below XB.out.np hI) (fun q hq=>by rw [GXB.out.2]; exact gd_mem GXA.out hq) (by rw [GXA.out.2]; omega) (by rw [GXA.out.2]; exact hn1) (by rw [GXB.out.2]; exact hn1)).mono ?_;rintro e1 W ⟨u,rfl,hu,hb⟩;exact ⟨u,rfl,Rg.acc hI hb,NewPI.two _ _ hu (by rw [Ma.len_mulN,GXA.out.2]; exact hn1) hb⟩
       rintro W8 u8 v8 hI hnw;have TM8:=ι (NewPI.tm TM.out hI hnw);have RW8:=ι (hnw.rw hI TM.out.Flt TM.out.Mlt)
       have K8:=ι (K.out.grow (P:=fun k=>v8.ownBlock=some k) (Q:=fun k=>u8.ownBlock=some k) hI hnw.1 (fun k e=>by
        obtain ⟨_,_,g,rfl,hg,_,_⟩:=hnw
        exact Nat.le_trans hg (own_eq e)))
       have X8:=ι hnw.2.1;clear hnw TM K EA EB AA AB XA XB hS;go_frame;have hS8:=hSB;refine Rg.Any.one (i:=19) (by kernel_rfl) (Rg.Any.ask (some 91) rfl rfl rfl _ _ (exec_fn3 91 _ _ _ _ rfl rfl rfl rfl (Dicl0 _ _)) ?_)
       refine (insert_t (parts:=[kb,ka]) HG.out FL.out.tb TM8.out hn1 hn2 X8.out HGR.out RW8.out ⟨Nat.le_succ _,Nat.le_refl _⟩ (fun q hq=>by
        rcases List.mem_cons.1 hq with hq | hq
        ·exact ⟨_,by rw [hq]; exact HTA.out⟩
        ·rw [List.mem_singleton] at hq; exact ⟨_,by rw [hq]; exact HTB.out⟩) (by show Ma.mulN (T9p.getD kb []) (T9p.getD ka [])=_; rw [List.getD_eq_getElem?_getD,List.getD_eq_getElem?_getD,HTA.out,HTB.out]; rfl) HTL.out.1).mono ?_
       rintro e1 W9q ⟨F9q,sv9q,lv9q,S9q,T9q,es9q,rfl,hin9,hT9,hg9⟩;refine ⟨_,rfl,⟨.inl rfl,.inl rfl⟩,?_⟩;go_frame;refine Rg.Any.done (by kernel_rfl) ?_ _;have FL9:=ι (FL.out.ins hin9);have HSA9:=ι (show ∀ s,s∈gs→Cm.Sd N (Cm.idT N (trE es9q)) N s from fun s hs=>Cm.Sd.mono (fun a b u _=>hin9.mono a b u) (HSA.out s hs));have TM9:=ι hT9;have K9:=ι (K8.out.trans hg9);have MA9:=ι (hin9.mem MA.out);have MB9:=ι (hin9.mem MB.out);have HLE9:=ι hin9.len;have HPR:=ι (hin9.pr HXB.out HXA.out rfl);have HPP:=ι (hin9.pp HP.out HIL.out HKI.out)
       have HXA9:=ι (show (es9q.map (·.x))[i]?=some xa by
        obtain ⟨m,hm⟩:=hin9.xs
        rw [hm,List.getElem?_append_left (List.getElem?_eq_some_iff.1 HXA.out).1]; exact HXA.out)
       have HXB9:=ι (show (es9q.map (·.x))[k]?=some xb by
        obtain ⟨m,hm⟩:=hin9.xs
        rw [hm,List.getElem?_append_left (List.getElem?_eq_some_iff.1 HXB.out).1]; exact HXB.out)
       have HTL9:=ι (FL9.out.tl hn2 hgl);have HIL9:=ι (show i<es9q.length by have:=HLE9.out; have:=HIL.out; omega);clear hT9 hg9 hin9 FL HSA TM8 K8 RW8 X8 MA MB HXA HXB HTL HIL HP hI hSB hS8 GXA GXB HTA HTB HGR HLE9;have HPN:=ι (HPP.out.step1 HPR.out).next
       have hk256:k<256:=by have:=HKI.out; have:=HI256.out; omega
       go_upto_region 11 with (fail);refine Rg.wl ?_;refine Rg.lm 36 (.int .i64 ((k:Nat):Int)) ?_;go_frame;refine Rg.lr 37 (exec_bin (R:=.int .i64 (((k+1):Nat):Int)) .add _ _ _ rfl rfl rfl (b_add _ (by omega) (by omega))) ?_;go_frame;refine Rg.la 7 (.int .i64 (((k+1):Nat):Int)) ?_;go_frame;go_wp2
       go_roundw
       case rel=>exact ⟨k+1,_,_,_,_,_,_,by go_num,Nat.succ_le_succ HKI.out,HIL9.out,FL9,HSA9,HPN,TM9,K9⟩
       case measure=>simp [intOf]; have:=HKI.out; have:=HI256.out; omega
end Go.Proofs.YtdnmmibchbceeaaGreat

namespace Go.Proofs.YtdnmmibchbceeaaGreat
open Go.RowKit
open Go.Proofs
open Go.Proofs.Ob
attribute [local irreducible] Go.Calls
theorem run_storeEn {w:World} {b o:Nat} {u v:Value} (hv:∃ q,v=.pointer q) (h:w.cell? ⟨b,o,none⟩=some u) (hf:w.frozen? ⟨b,o,none⟩=false) :
  (storeVar 110 ⟨b,o,none⟩ v).run Tryz.prog w=.ok () (w.setCell ⟨b,o,none⟩ v):=by
 obtain ⟨q,rfl⟩:=hv;obtain ⟨i0,hi,hz0,hz1,hz2⟩:=info_parts infoEnp
 have h0:(⟨b,o,none⟩:Addr).add 0=⟨b,o,none⟩:=by simp [Addr.add]
 simp [storeVar,sizeOf,typeInfo,hi,hz1,Value.cells,storeCells,store,h0];simp [Sem.run,h,hf]
theorem yields_indexE {ops:Array Oper} {S:World→Prop} {o:Oper} {a:Act} (x y:Operand) (hg:Region.wanted o (yielded ops a.tmps)=true) (ho:o.op=.indexAddr 102 x y) (b len cap i:Nat) (hx:a.eval x=.slice (some ⟨b,0,none⟩) len cap) (hy:a.eval y=.int .i64 (i:Int)) (hi:i<len) :
  YieldsIf Tryz.prog ops S o (.pointer (some ⟨b,i,none⟩)) a:=by
 have:=Rg.yields_index (S:=S) slEnts x y hg ho b 0 len cap i hx hy hi
 rwa [Nat.zero_add] at this
theorem exec_indexE {o:Oper} {a:Act} {w:World} (x y:Operand) (ho:o.op=.indexAddr 102 x y) (b len cap i:Nat) (hx:a.eval x=.slice (some ⟨b,0,none⟩) len cap) (hy:a.eval y=.int .i64 (i:Int)) (hi:i<len) :
  (execOp a.eval o).run Tryz.prog w=.ok (.value (.pointer (some ⟨b,i,none⟩))) w:=by
 have:=Rg.run_indexSl slEnts w b 0 len cap i hi;rw [Nat.zero_add] at this;unfold execOp;simp only [ho,hx,hy,Sem.run_bind,Sem.run_pure,Result.andThen_ok,this]
theorem ReverseE_row (b n m cap:Nat) (g:Nat→Value) (w w0:World) (hm:m≤n) (hn:m≤64) (hc:m≤cap) (hcl:∀ j,j<m→∃ q,g j=Value.pointer q) (hr:w.rowIs b 110 n (fun j=>g j)) (hb:Below w0.heap.size w0 w) (hB:w0.heap.size≤b) :
  Calls Tryz.prog 66 #[.slice (some ⟨b,0,none⟩) m cap] w fun e w'=>(∃ v,e=.returned v)∧w'.rowIs b 110 n (fun j=>(if j<m then g (m - 1 - j) else g j))∧Below w0.heap.size w0 w':=by
 have Hr:=ι hr;clear hr
 go_enter Tryz.func66,Tryz.ntmps66
 go_wp2
 go_loopw [2,3] (fun u v wr=>∃ (k:Nat) (j:Int),u=.int .i64 k∧v=.int .i64 j∧j+k+1=m∧k≤m∧Hid (wr.rowIs b 110 n (fun x=>(if x<m∧(x<k∨m≤x+k) then g (m - 1 - x) else g x)))∧Below w0.heap.size w0 wr) (fun u _ _=>m - (intOf u).toNat)
 case atStart=>exact ⟨0,_,rfl,rfl,by omega,by omega,Hr.out.congr (fun i hi=>by rw [if_neg (by omega)]),hb⟩
 case round =>
  clear Hr hb;obtain ⟨k,j,rfl,rfl,hj,hk,hs,hbel⟩:=hrel
  by_cases hlt:(k:Int)<j
  ·obtain ⟨jn,rfl⟩:∃ jn:Nat,j=jn:=⟨j.toNat,by omega⟩
   have hjn:jn+k+1=m:=by omega
   have hkj:k<jn:=by omega
   have ck:=hs.out.cell (show k<n by omega);have cj:=hs.out.cell (show jn<n by omega);rw [if_neg (by omega)] at ck cj;have fk:=hs.out.frozen k;have fj:=hs.out.frozen jn;go_upto_region 3 with (fail);have hsd:(World.drew wr).rowIs b 110 n (fun x=>(if x<m∧(x<k∨m≤x+k) then g (m - 1 - x) else g x)):=hs.out;have hbd:Below w0.heap.size w0 (World.drew wr):=hbel.drew;have hT:(World.drew wr).cell? ⟨b,k,none⟩=some (g k)∧(World.drew wr).cell? ⟨b,jn,none⟩=some (g jn):=⟨ck,cj⟩;have hfk:(World.drew wr).frozen? ⟨b,k,none⟩=false:=fk;have hfj:(World.drew wr).frozen? ⟨b,jn,none⟩=false:=fj;have HS:=ι hsd;clear hsd ck cj fk fj hs hbel;refine Rg.Any.begin (S:=Rg.Both 13 (fun W=>W.cell? ⟨b,k,none⟩=some (g k)∧W.cell? ⟨b,jn,none⟩=some (g jn)) (fun _=>True)) mix ?_;generalize World.drew wr=W at *;have hS:∀ l,Rg.Both 13 (fun W=>W.cell? ⟨b,k,none⟩=some (g k)∧W.cell? ⟨b,jn,none⟩=some (g jn)) (fun _=>True) l W:=fun l=>⟨.inr hT,trivial⟩
   refine Rg.tg 0 13 (.slice (some ⟨b,0,none⟩) m cap) 14 rfl rfl (.inl ⟨rfl,fun W hW=>Rg.exec_move _ rfl rfl⟩) (hS _) ?_;go_frame;refine Rg.tg 1 13 (.int .i64 (k:Int)) 15 rfl rfl (.inl ⟨rfl,fun W hW=>Rg.exec_move _ rfl rfl⟩) (hS _) ?_;go_frame;refine Rg.tg 2 13 (.slice (some ⟨b,0,none⟩) m cap) 16 rfl rfl (.inl ⟨rfl,fun W hW=>Rg.exec_move _ rfl rfl⟩) (hS _) ?_;go_frame;refine Rg.tg 3 13 (.int .i64 (jn:Int)) 17 rfl rfl (.inl ⟨rfl,fun W hW=>Rg.exec_move _ rfl rfl⟩) (hS _) ?_;go_frame;refine Rg.tg 4 13 (.slice (some ⟨b,0,none⟩) m cap) 18 rfl rfl (.inl ⟨rfl,fun W hW=>Rg.exec_move _ rfl rfl⟩) (hS _) ?_;go_frame;refine Rg.tg 5 13 (.int .i64 (jn:Int)) 19 rfl rfl (.inl ⟨rfl,fun W hW=>Rg.exec_move _ rfl rfl⟩) (hS _) ?_;go_frame;refine Rg.tg 6 13 (.pointer (some ⟨b,jn,none⟩)) 20 rfl rfl (yields_indexE _ _ rfl rfl b m cap jn rfl rfl (by omega)) (hS _) ?_;go_frame;refine Rg.Any.takeT (i:=7) (t:=13) (v:=g jn) (some 21) rfl rfl (by kernel_rfl) (by kernel_rfl) (by kernel_rfl) (fun _ _ _ h=>h) rfl (by kernel_rfl) rfl (Rg.yields_cell _ _ rfl rfl ⟨b,jn,none⟩ rfl (fun w h=>Rg.run_loadPtr _ _ Tryz.underlying110 h.2)) (hS _) ?_;go_frame
   refine Rg.tg 8 13 (.slice (some ⟨b,0,none⟩) m cap) 22 rfl rfl (.inl ⟨rfl,fun W hW=>Rg.exec_move _ rfl rfl⟩) (hS _) ?_;go_frame;refine Rg.tg 9 13 (.int .i64 (k:Int)) 23 rfl rfl (.inl ⟨rfl,fun W hW=>Rg.exec_move _ rfl rfl⟩) (hS _) ?_;go_frame;refine Rg.tg 10 13 (.pointer (some ⟨b,k,none⟩)) 24 rfl rfl (yields_indexE _ _ rfl rfl b m cap k rfl rfl (by omega)) (hS _) ?_;go_frame;refine Rg.Any.takeT (i:=11) (t:=13) (v:=g k) (some 25) rfl rfl (by kernel_rfl) (by kernel_rfl) (by kernel_rfl) (fun _ _ _ h=>h) rfl (by kernel_rfl) rfl (Rg.yields_cell _ _ rfl rfl ⟨b,k,none⟩ rfl (fun w h=>Rg.run_loadPtr _ _ Tryz.underlying110 h.1)) (hS _) ?_;go_frame;refine Rg.Any.one (i:=12) (by kernel_rfl) (Rg.Any.run (some 26) rfl rfl rfl (exec_indexE _ _ rfl b m cap k rfl rfl (by omega)) (hS _) ?_);go_frame;refine Rg.Any.one (i:=13) (by kernel_rfl) (Rg.Any.runSkip none rfl rfl rfl (Rg.exec_store _ _ _ rfl _ rfl (g jn) rfl (run_storeEn (hcl jn (by omega)) hT.1 hfk)) ⟨.inl rfl,trivial⟩ ?_)
   go_frame
   have hcj2:(W.setCell ⟨b,k,none⟩ (g jn)).cell? ⟨b,jn,none⟩=some (g jn):=by
    rw [World.cell?_setCell_other (h:=by intro e; injection e with e1 e2; omega) ..]
    exact hT.2
   have hfj2:(W.setCell ⟨b,k,none⟩ (g jn)).frozen? ⟨b,jn,none⟩=false:=by rw [World.frozen?_setCell]; exact hfj
   refine Rg.Any.one (i:=14) (by kernel_rfl) (Rg.Any.run (some 27) rfl rfl rfl (exec_indexE _ _ rfl b m cap jn rfl rfl (by omega)) ⟨.inl rfl,trivial⟩ ?_);go_frame;refine Rg.Any.one (i:=15) (by kernel_rfl) (Rg.Any.runSkip none rfl rfl rfl (Rg.exec_store _ _ _ rfl _ rfl (g k) rfl (run_storeEn (hcl k (by omega)) hcj2 hfj2)) ⟨.inl rfl,trivial⟩ ?_);go_frame;refine Rg.Any.done (by kernel_rfl) ?_ _;have hrow:=(HS.out.set k (g jn)).set jn (g k);have hbl:Below w0.heap.size w0 ((W.setCell ⟨b,k,none⟩ (g jn)).setCell ⟨b,jn,none⟩ (g k)):=(hbd.setCell hB _).setCell hB _;clear hcj2 hfj2 hS hT hfk hfj HS hbd;generalize (W.setCell ⟨b,k,none⟩ (g jn)).setCell ⟨b,jn,none⟩ (g k)=W2 at *;have HR:=ι hrow;clear hrow;go_wp2
   go_roundw
   case rel =>
    refine ⟨k+1,(jn:Int) - 1,by go_num,by go_num,by omega,by omega,ι (HR.out.congr fun x hx=>?_),hbl⟩
    by_cases e1:x=jn
    ·rw [if_pos e1,if_pos (by omega),show m - 1 - x=k from by omega]
    ·rw [if_neg e1]
     by_cases e2:x=k
     ·rw [if_pos e2,if_pos (by omega),show m - 1 - x=jn from by omega]
     ·rw [if_neg e2]
      by_cases e3:x<m∧(x<k∨m≤x+k)
      ·rw [if_pos e3,if_pos (by omega)]
      ·rw [if_neg e3,if_neg (by omega)]
   case measure=>simp [intOf]; omega
  ·go_wp2
   go_end0
   refine ⟨⟨_,rfl⟩,hs.out.congr fun x hx=>?_,hbel⟩
   by_cases e1:x<m
   ·rw [if_pos e1]
    by_cases e2:x<m∧(x<k∨m≤x+k)
    ·rw [if_pos e2]
    ·rw [if_neg e2,show m - 1 - x=x from by omega]
   ·rw [if_neg e1,if_neg (by omega)]
theorem rowE_own {w:World} {g n cap B:Nat} {e:TypeId} {us:List Value} (h:w.ownsRow B e 1 (.slice (some ⟨g,0,none⟩) n cap) n us):n≤cap∧B≤g∧∃ V:Nat→Value,w.rowIs g e cap V∧∀ i (hi:i<us.length),V i=us[i]:=by
 obtain ⟨h1,h2⟩:=h
 rcases h2 with ⟨h3,_⟩ | ⟨g',cap',cur,h3,hB,hc,h5,h6,h7,h8⟩
 ·cases h3
 ·simp only [Value.slice.injEq,Option.some.injEq,Addr.mk.injEq,and_true,true_and] at h3
  obtain ⟨rfl,rfl⟩:=h3
  have hl:us.length=n:=by omega
  have hus:∀ i (hi:i<us.length),cur[i]?=some us[i]:=fun i hi=>by
   rw [← Array.getElem?_toList,← List.getElem?_eq_getElem hi,← h8,List.getElem?_take_of_lt (by omega)]
  refine ⟨h5,hB,fun i=>(cur[i]?).getD undef,⟨cur,hc,by omega,fun i hi=>?_⟩,fun i hi=>?_⟩
  ·show cur[i]?=some ((cur[i]?).getD undef)
   rw [Array.getElem?_eq_getElem (by omega)]; rfl
  ·show (cur[i]?).getD undef=_
   rw [hus i hi]; rfl
theorem ownE_row {w:World} {g n cap B:Nat} {e:TypeId} {us:List Value} {V:Nat→Value} (h:w.rowIs g e cap V) (hB:B≤g) (hn:n≤cap) (hc:cap≤maxLen) (hl:us.length=n) (hV:∀ i (hi:i<us.length),V i=us[i]):w.ownsRow B e 1 (.slice (some ⟨g,0,none⟩) n cap) n us:=by
 obtain ⟨cur,h1,h2,h3⟩:=h;refine ⟨by omega,.inr ⟨g,cap,cur,rfl,hB,h1,hn,hc,by omega,?_⟩⟩
 apply List.ext_getElem?
 intro i
 by_cases hi:i<us.length
 ·rw [List.getElem?_take_of_lt (by omega),Array.getElem?_toList,h3 i (by omega),hV i hi,List.getElem?_eq_getElem hi]
 ·rw [List.getElem?_eq_none (by simp; omega),List.getElem?_eq_none (by omega)]
theorem row_cap {w:World} {g n cap B:Nat} {e:TypeId} {us:List Value} (h:w.ownsRow B e 1 (.slice (some ⟨g,0,none⟩) n cap) n us):cap≤maxLen:=by
 obtain ⟨h1,h2⟩:=h
 rcases h2 with ⟨h3,_⟩ | ⟨g',cap',cur,h3,hB,hc,h5,h6,h7,h8⟩
 ·cases h3
 ·simp only [Value.slice.injEq,Option.some.injEq,Addr.mk.injEq,and_true,true_and] at h3
  obtain ⟨rfl,rfl⟩:=h3;exact h6
theorem reverseE {B:Nat} {w0 w:World} {uv:Value} {n:Nat} {us:List Value} (h:w.ownsRow B 110 1 uv n us) (hcl:∀ u∈us,∃ q,u=Value.pointer q) (hn:n≤64) (hb:Below w0.heap.size w0 w) (hB:w0.heap.size≤B) :
  Calls Tryz.prog 66 #[uv] w fun e w'=>(∃ v,e=.returned v)∧w'.ownsRow B 110 1 uv n us.reverse∧Below w0.heap.size w0 w':=by
 obtain ⟨a,c,hs⟩:=Rg.row_shape h;subst hs
 have hl:us.length=n:=by have:=h.1; omega
 cases a with
 | none =>
  have hn0:n=0:=by
   obtain ⟨_,h2⟩:=h
   rcases h2 with ⟨_,h4⟩ | ⟨g,cap,cur,h3,_⟩
   ·exact h4
   ·cases h3
  subst hn0;have hus:us=[]:=List.eq_nil_of_length_eq_zero hl;subst hus;have H:=ι h;clear h hcl hl
  go_enter Tryz.func66,Tryz.ntmps66
  go_wp2
  go_loopw [2,3] (fun u v wr=>u=.int .i64 0∧v=.int .i64 (-1)∧Hid (wr.ownsRow B 110 1 (.slice none 0 c) 0 [])∧Below w0.heap.size w0 wr) (fun u _ _=>0)
  case atStart=>exact ⟨rfl,rfl,H,hb⟩
  case round =>
   clear H hb;obtain ⟨rfl,rfl,H,hb⟩:=hrel;go_wp2
   first
   | go_end0
   | refine bodyPost_ret (results_none rfl _ _ _) rfl ?_
   exact ⟨⟨_,rfl⟩,H.out,hb⟩
 | some ad =>
  obtain ⟨g,hg⟩:∃ g,ad=⟨g,0,none⟩:=by
   obtain ⟨_,h2⟩:=h
   rcases h2 with ⟨h4,_⟩ | ⟨g,cap,cur,h3,_⟩
   ·cases h4
   ·simp only [Value.slice.injEq,Option.some.injEq] at h3
    exact ⟨g,h3.1⟩
  subst hg;have hc:=row_cap h;obtain ⟨h1,h2,V,h3,h4⟩:=rowE_own h;refine (ReverseE_row g c n c V w w0 h1 hn h1 (fun j hj=>?_) h3 hb (Nat.le_trans hB h2)).mono ?_
  ·rw [h4 j (by omega)]; exact hcl _ (List.getElem_mem _)
  ·rintro e w' ⟨hv,hr,hbb⟩
   refine ⟨hv,ownE_row hr h2 h1 hc (by rw [List.length_reverse]; exact hl) (fun i hi=>?_),hbb⟩;rw [List.length_reverse] at hi;rw [if_pos (by omega),List.getElem_reverse,h4 _ (by omega)]
   congr 1
   omega
end Go.Proofs.YtdnmmibchbceeaaGreat

namespace Go.Proofs.YtdnmmibchbceeaaGreat
open Go.RowKit
open Go.Proofs
open Go.Proofs.Ob
open Go.Proofs.Cm (Gd Gr IsChain ap)
attribute [local irreducible] Go.Calls Go.wpList
theorem Bwcl4 (args:Array Value) (w:World):(callFunc 61 args).run Tryz.prog w=.ok (.enter 61 args) w:=by kernel_rfl
def rgC (d:Int) (ll:List (List Int)) (xl:List Int):Int:=if Ma.gchk d ll=0 then (if Ma.pchk xl=0 then (if (xl.length:Int)=d then 0 else 10) else Ma.pchk xl) else Ma.gchk d ll
theorem rgC_1 {d:Int} {ll:List (List Int)} {xl:List Int} (h:Ma.gchk d ll≠0):rgC d ll xl=Ma.gchk d ll:=if_neg h
theorem rgC_2 {d:Int} {ll:List (List Int)} {xl:List Int} (h:Ma.gchk d ll=0) (h2:Ma.pchk xl≠0):rgC d ll xl=Ma.pchk xl:=by unfold rgC; rw [if_pos h,if_neg h2]
theorem rgC_3 {d:Int} {ll:List (List Int)} {xl:List Int} (h:Ma.gchk d ll=0) (h2:Ma.pchk xl=0) (h3:¬ (xl.length:Int)=d):rgC d ll xl=10:=by unfold rgC; rw [if_pos h,if_pos h2,if_neg h3]
theorem rgC_4 {d:Int} {ll:List (List Int)} {xl:List Int} (h:Ma.gchk d ll=0) (h2:Ma.pchk xl=0) (h3:(xl.length:Int)=d):rgC d ll xl=0:=by unfold rgC; rw [if_pos h,if_pos h2,if_pos h3]
theorem rgC_get {d:Int} {ll:List (List Int)} {xl:List Int} (h:rgC d ll xl=0):Ma.gchk d ll=0∧∃ x N,xl=Ma.ofN x∧d=((N:Nat):Int)∧Gd N x:=by
 by_cases h1:Ma.gchk d ll=0
 ·by_cases h2:Ma.pchk xl=0
  ·by_cases h3:(xl.length:Int)=d
   ·obtain ⟨x,rfl,hx⟩:=Ma.okL_ofN (Ma.pchk_zero h2).2.2
    rw [Ma.len_ofN] at h3;exact ⟨h1,x,x.length,rfl,h3.symm,hx,rfl⟩
   ·rw [rgC_3 h1 h2 h3] at h; cases h
  ·rw [rgC_2 h1 h2] at h; exact absurd h h2
 ·rw [rgC_1 h1] at h; exact absurd h h1
theorem fcRight_any (gv xv:Value) (d:Int) (ll:List (List Int)) (xl:List Int) (w:World) (h:Rg.Rows w gv ll) (hx:Rg.Ints w xv xl) :
  Calls Tryz.prog 61 #[.agg #[.int .i64 d,gv],xv] w fun e w'=>e=.returned (.int .i64 (rgC d ll xl))∧Below w.heap.size w w':=by
 obtain ⟨xa,xc,rfl,-⟩:=hx.shape;have HX:=ι (NpI.mk hx);clear hx;obtain ⟨ga,gc,rfl,hga,hba⟩:=GI.enter (d) h;have K:=ι hba;have G0:=ι hga;clear h hga hba;obtain ⟨ck,hck⟩:∃ c,Hid (Ma.gchk d ll=c):=⟨_,ι rfl⟩;obtain ⟨pk,hpk⟩:∃ c,Hid (Ma.pchk xl=c):=⟨_,ι rfl⟩;replace HX:=ι (HX.out.below ((Below.refl _ _).alloc (Nat.le_refl _) (.cells #[.int .i64 d,.slice ga ll.length gc] 24)))
 go_enter Tryz.func61,Tryz.ntmps61
 go_upto_region 0 with (fail);refine Rg.wl ?_;refine Rg.lr 2 (Rg.exec_box _ _ rfl rfl) ?_;go_frame;refine Rg.la 4 (.int .i64 0) ?_;go_frame;generalize w.alloc (.cells #[.int .i64 d,.slice ga ll.length gc] 24)=w0 at *;go_upto_region 1 with (fail);refine Rg.wl ?_;refine Rg.lr 7 (Rg.exec_load (v:=.agg #[.int .i64 d,.slice ga ll.length gc]) _ _ rfl ⟨w.heap.size,0,none⟩ rfl (run_loadG G0.out.c0 G0.out.c1)) ?_;go_frame;refine Rg.lk 8 (exec_fn1 40 _ _ rfl rfl (Wbcl0 _ _)) ?_;refine (orbitCheck_any _ d ll w0 G0.out.rows).mono ?_;rintro e1 w1 ⟨rfl,hb⟩;rw [hck.out];refine ⟨_,rfl,?_⟩;go_frame;replace G0:=ι (G0.out.below hb);replace HX:=ι (HX.out.below hb);replace K:=ι (Rg.acc K.out hb);clear hb;refine Rg.la 5 (.int .i64 ck) ?_;go_frame
 by_cases h0:ck=0
 case neg =>
  skip
  go_upto_region 2 with (fail);refine Rg.wl ?_;refine Rg.lm 9 (.int .i64 ck) ?_;go_frame;refine Rg.lr 10 (exec_bin (R:=.bool true) .neq _ _ _ rfl rfl rfl (b_neqB _ (decide_eq_true h0))) ?_;go_frame;go_upto_region 3 with (fail);refine Rg.wl ?_;refine Rg.lm 11 (.int .i64 ck) ?_;go_frame;refine Rg.la 4 (.int .i64 ck) ?_;go_frame;go_wp2;go_ret;exact ⟨by rw [rgC_1 (by rw [hck.out]; exact h0),hck.out]; rfl,K.out⟩
 case pos =>
  have HZ:=ι (hck.out.trans h0);go_upto_region 2 with (fail);refine Rg.wl ?_;refine Rg.lm 9 (.int .i64 ck) ?_;go_frame;refine Rg.lr 10 (exec_bin (R:=.bool false) .neq _ _ _ rfl rfl rfl (b_neqB _ (decide_eq_false (fun e=>e h0)))) ?_;go_frame;clear h0;go_upto_region 4 with (fail);refine Rg.wl ?_;refine Rg.lm 12 (.slice xa xl.length xc) ?_;go_frame;refine Rg.lk 13 (exec_fn1 75 _ _ rfl rfl (Wvcl1 _ _)) ?_;refine (permCheck_any _ _ w1 HX.out.i).mono ?_;rintro e1 w22 ⟨rfl,hb⟩;rw [hpk.out];refine ⟨_,rfl,?_⟩;go_frame;replace G0:=ι (G0.out.below hb);replace HX:=ι (HX.out.below hb);replace K:=ι (Rg.acc K.out hb);clear hb;refine Rg.la 6 (.int .i64 pk) ?_;go_frame
  by_cases h1:pk=0
  case neg =>
   skip
   go_upto_region 5 with (fail);refine Rg.wl ?_;refine Rg.lm 14 (.int .i64 pk) ?_;go_frame;refine Rg.lr 15 (exec_bin (R:=.bool true) .neq _ _ _ rfl rfl rfl (b_neqB _ (decide_eq_true h1))) ?_;go_frame;go_upto_region 6 with (fail);refine Rg.wl ?_;refine Rg.lm 16 (.int .i64 pk) ?_;go_frame;refine Rg.la 4 (.int .i64 pk) ?_;go_frame;go_wp2;go_ret;exact ⟨by rw [rgC_2 HZ.out (by rw [hpk.out]; exact h1),hpk.out]; rfl,K.out⟩
  case pos =>
   have HY:=ι (hpk.out.trans h1);go_upto_region 5 with (fail);refine Rg.wl ?_;refine Rg.lm 14 (.int .i64 pk) ?_;go_frame;refine Rg.lr 15 (exec_bin (R:=.bool false) .neq _ _ _ rfl rfl rfl (b_neqB _ (decide_eq_false (fun e=>e h1)))) ?_;go_frame;clear h1
   by_cases h2:(xl.length:Int)=d
   case neg =>
    skip
    go_upto_region 7 with (fail);refine Rg.wl ?_;refine Rg.lm 17 (.slice xa xl.length xc) ?_;go_frame;refine Rg.lr 18 (exec_len _ _ _ rfl Tryz.underlying30 _ _ _ rfl) ?_;go_frame;refine Rg.lr 19 (exec_fieldG0 _ rfl rfl) ?_;go_frame;refine Rg.lr 20 (Rg.exec_load (v:=.int .i64 d) _ _ rfl ⟨w.heap.size,0,none⟩ rfl (run_loadInt G0.out.c0)) ?_;go_frame;refine Rg.lr 21 (exec_bin (R:=.bool true) .neq _ _ _ rfl rfl rfl (b_neqB _ (decide_eq_true h2))) ?_;go_frame;go_upto_region 8 with (fail);refine Rg.wl ?_;refine Rg.la 4 (.int .i64 ((10:Nat):Int)) ?_;go_frame;go_wp2;go_ret;exact ⟨by rw [rgC_3 HZ.out HY.out h2]; rfl,K.out⟩
   case pos =>
    skip
    go_upto_region 7 with (fail);refine Rg.wl ?_;refine Rg.lm 17 (.slice xa xl.length xc) ?_;go_frame;refine Rg.lr 18 (exec_len _ _ _ rfl Tryz.underlying30 _ _ _ rfl) ?_;go_frame;refine Rg.lr 19 (exec_fieldG0 _ rfl rfl) ?_;go_frame;refine Rg.lr 20 (Rg.exec_load (v:=.int .i64 d) _ _ rfl ⟨w.heap.size,0,none⟩ rfl (run_loadInt G0.out.c0)) ?_;go_frame;refine Rg.lr 21 (exec_bin (R:=.bool false) .neq _ _ _ rfl rfl rfl (b_neqB _ (decide_eq_false (fun e=>e h2)))) ?_;go_frame;go_upto_region 9 with (fail);refine Rg.wl ?_;refine Rg.la 4 (.int .i64 ((0:Nat):Int)) ?_;go_frame;go_wp2;go_ret;exact ⟨by rw [rgC_4 HZ.out HY.out h2]; rfl,K.out⟩
def LtV (d:Int) (ll:List (List Int)) (xl:List Int) (l:List Int) (c:Int):Prop :=
 (rgC d ll xl≠0∧c=rgC d ll xl∧l=[]) ∨
  (rgC d ll xl=0∧∃ (N:Nat) (gs:List (List Nat)) (O:List (List Nat)) (R:List (List (List Nat))) (x:List Nat),d=((N:Nat):Int)∧ll=gs.map Ma.ofN∧xl=Ma.ofN x∧Gd N x∧(∀ s∈gs,Gd N s)∧IsChain N (Cm.Gr N (·∈gs)) O R ∧
   ((5040<szD O N N∧c=5∧l=[]) ∨
   (szD O N N≤5040∧∃ st:BSt,BfE (mlets gs) N st∧((x∉st.1∧c=18∧l=[])∨(x∈st.1∧c=0∧l=wdOf st x)))))
def LtPost (d:Int) (ll:List (List Int)) (xl:List Int) (w:World) (ed:Ending) (w':World):Prop:=∃ v l c,ed=.returned (.tuple #[v,.int .i64 c])∧LtV d ll xl l c∧Rg.Ints w' v l∧Below w.heap.size w w'
theorem fcLeast_any (gv xv:Value) (d:Int) (ll:List (List Int)) (xl:List Int) (w:World) (h:Rg.Rows w gv ll) (hx:Rg.Ints w xv xl) (hd:d≤12) :
  Calls Tryz.prog 22 #[.agg #[.int .i64 d,gv],xv] w (LtPost d ll xl w):=by
 obtain ⟨xa,xc,rfl,-⟩:=hx.shape;have HX:=ι (NpI.mk hx);clear hx;obtain ⟨ga,gc,rfl,hga,hba⟩:=GI.enter (d) h;have K:=ι hba;have G0:=ι hga;clear h hga hba;obtain ⟨rk,hrk⟩:∃ c,Hid (rgC d ll xl=c):=⟨_,ι rfl⟩;replace HX:=ι (HX.out.below ((Below.refl _ _).alloc (Nat.le_refl _) (.cells #[.int .i64 d,.slice ga ll.length gc] 24)))
 go_enter Tryz.func22,Tryz.ntmps22
 go_upto_region 0 with (fail);refine Rg.wl ?_;refine Rg.lr 2 (Rg.exec_box _ _ rfl rfl) ?_;go_frame;refine Rg.la 4 (.slice none 0 0) ?_;go_frame;refine Rg.la 5 (.int .i64 0) ?_;go_frame;generalize w.alloc (.cells #[.int .i64 d,.slice ga ll.length gc] 24)=w0 at *;go_upto_region 1 with (fail);refine Rg.wl ?_;refine Rg.lr 12 (Rg.exec_load (v:=.agg #[.int .i64 d,.slice ga ll.length gc]) _ _ rfl ⟨w.heap.size,0,none⟩ rfl (run_loadG G0.out.c0 G0.out.c1)) ?_;go_frame;refine Rg.lm 13 (.slice xa xl.length xc) ?_;go_frame;refine Rg.lk 14 (exec_fn 61 _ _ _ rfl rfl rfl (Bwcl4 _ _)) ?_;refine (fcRight_any _ _ d ll xl w0 G0.out.rows HX.out.i).mono ?_;rintro e1 w1 ⟨rfl,hb⟩;rw [hrk.out];refine ⟨_,rfl,?_⟩;go_frame;replace G0:=ι (G0.out.below hb);replace HX:=ι (HX.out.below hb);replace K:=ι (Rg.acc K.out hb);clear hb;refine Rg.la 6 (.int .i64 rk) ?_;go_frame
 by_cases h0:rk=0
 case neg =>
  skip
  go_upto_region 2 with (fail);refine Rg.wl ?_;refine Rg.lm 15 (.int .i64 rk) ?_;go_frame;refine Rg.lr 16 (exec_bin (R:=.bool true) .neq _ _ _ rfl rfl rfl (b_neqB _ (decide_eq_true h0))) ?_;go_frame;go_upto_region 3 with (fail);refine Rg.wl ?_;refine Rg.lm 17 (.int .i64 rk) ?_;go_frame;refine Rg.la 4 (.slice none 0 0) ?_;go_frame;refine Rg.la 5 (.int .i64 rk) ?_;go_frame;go_wp2
  go_ret2
  exact ⟨_,[],rk,rfl,.inl ⟨by rw [hrk.out]; exact h0,hrk.out.symm,rfl⟩,ints_nil _,K.out⟩
 case pos =>
  have HZ:=ι (hrk.out.trans h0);obtain ⟨hgz,x,N0,hxe,hdN,gx⟩:=rgC_get HZ.out;have HGZ:=ι hgz;have HXE:=ι hxe;have HDN:=ι hdN;have GX0:=ι gx;clear hgz hxe hdN gx;go_upto_region 2 with (fail);refine Rg.wl ?_;refine Rg.lm 15 (.int .i64 rk) ?_;go_frame;refine Rg.lr 16 (exec_bin (R:=.bool false) .neq _ _ _ rfl rfl rfl (b_neqB _ (decide_eq_false (fun e=>e h0)))) ?_;go_frame;clear h0;go_upto_region 4 with (fail);refine Rg.wl ?_;refine Rg.lr 19 (Rg.exec_load (v:=.agg #[.int .i64 d,.slice ga ll.length gc]) _ _ rfl ⟨w.heap.size,0,none⟩ rfl (run_loadG G0.out.c0 G0.out.c1)) ?_;go_frame;refine Rg.lk 20 (exec_fn1 51 _ _ rfl rfl (Bmcl0 _ _)) ?_;refine (fcSearch_v _ d ll w1 G0.out.rows hd).mono ?_;rintro e1 w22 ⟨fa,fn,fc,mo,c,rfl,hsr,hb⟩;have SR:=ι hsr;clear hsr;refine ⟨_,rfl,?_⟩;go_frame;replace G0:=ι (G0.out.below hb);replace HX:=ι (HX.out.below hb);replace K:=ι (Rg.acc K.out hb)
  clear hb;refine Rg.lm 18 (.tuple #[.slice fa fn fc,(.map mo),.int .i64 c]) ?_;go_frame;refine Rg.lr 21 (exec_extract (v:=.slice fa fn fc) _ _ rfl rfl rfl) ?_;go_frame;refine Rg.lr 22 (exec_extract (v:=(.map mo)) _ _ rfl rfl rfl) ?_;go_frame;refine Rg.lr 23 (exec_extract (v:=.int .i64 c) _ _ rfl rfl rfl) ?_;go_frame;refine Rg.la 7 (.slice fa fn fc) ?_;go_frame;refine Rg.la 8 ((.map mo)) ?_;go_frame;refine Rg.la 9 (.int .i64 c) ?_;go_frame
  rcases SR.out with ⟨h1,-,-⟩ | ⟨h1,N,gs,O,R,e1,e2,hN1,hgl,hgd,hch,⟨h2,rfl,-⟩ | ⟨h2,rfl,mb,vs,st,rfl,hbe,hbi,hl,hl1,hbf⟩⟩
  ·exact absurd HGZ.out h1
  ·skip
   have hNN:N0=N:=by have:=HDN.out; omega
   subst hNN;go_upto_region 5 with (fail);refine Rg.wl ?_;refine Rg.lm 24 (.int .i64 5) ?_;go_frame;refine Rg.lr 25 (exec_bin (R:=.bool true) .neq _ _ _ rfl rfl rfl (b_neqB _ (decide_eq_true (by decide)))) ?_;go_frame;go_upto_region 6 with (fail);refine Rg.wl ?_;refine Rg.lm 26 (.int .i64 5) ?_;go_frame;refine Rg.la 4 (.slice none 0 0) ?_;go_frame;refine Rg.la 5 (.int .i64 5) ?_;go_frame;go_wp2
   go_ret2
   exact ⟨_,[],5,rfl,.inr ⟨HZ.out,_,gs,O,R,x,e1,e2,HXE.out,GX0.out,hgd,hch,.inl ⟨h2,rfl,rfl⟩⟩,ints_nil _,K.out⟩
  ·skip
   have hNN:N0=N:=by have:=HDN.out; omega
   subst hNN;have HBM:=ι hbf;have HBI:=ι hbi;have HBE:=ι hbe
   have hN12:N0≤12:=by have:=HDN.out; omega
   have NX:=ι (show NpI w22 (.slice xa xl.length xc) (Ma.ofN x) from ⟨by have h9:=HX.out.i; generalize Value.slice xa xl.length xc=v9 at h9 ⊢; rw [HXE.out] at h9; exact h9⟩);obtain ⟨xn,hxn⟩:∃ n,Hid (xl.length=n):=⟨_,ι rfl⟩;clear hbf hbi hbe SR;go_upto_region 5 with (fail);refine Rg.wl ?_;refine Rg.lm 24 (.int .i64 0) ?_;go_frame;refine Rg.lr 25 (exec_bin (R:=.bool false) .neq _ _ _ rfl rfl rfl (b_neqB _ (decide_eq_false (by decide)))) ?_;go_frame
   by_cases hin:x∈st.1
   case neg =>
    have HNO:=ι (look_none (vs:=vs) (fun y hy=>gd_b (HBI.out.gd y hy) (by omega)) (gd_b GX0.out (by omega)) hin);go_upto_region 7 with (fail);refine Rg.wl ?_;refine Rg.lm 28 ((.map (some mb))) ?_;go_frame;refine Rg.lm 29 (.slice xa xl.length xc) ?_;go_frame;refine Rg.lk 30 (exec_fn1 56 _ _ rfl rfl (Bgcl5 _ _)) ?_;refine (key_any (x:=x) NX.out.i (by rw [GX0.out.2]; exact hN1) (by rw [GX0.out.2]; omega) (gd_b GX0.out (by omega))).mono ?_;rintro e1 w43 ⟨rfl,hb⟩;refine ⟨_,rfl,?_⟩;go_frame;replace G0:=ι (G0.out.below hb);replace HBM:=ι (HBM.out.below hb);replace NX:=ι (NX.out.below hb);replace K:=ι (Rg.acc K.out hb);clear hb;have hlk:=Sm.lookup_ok stWords HBM.out.map (keyS x);rw [HNO.out,Option.getD_none,Option.isSome_none] at hlk;refine Rg.lr 31 (Rg.exec_lookup _ _ _ _ rfl _ _ rfl rfl hlk) ?_;go_frame;clear hlk;refine Rg.lm 27 (.tuple #[(.slice none 0 0),.bool false]) ?_;go_frame
    refine Rg.lr 32 (exec_extract (v:=(.slice none 0 0)) _ _ rfl rfl rfl) ?_;go_frame;refine Rg.lr 33 (exec_extract (v:=.bool false) _ _ rfl rfl rfl) ?_;go_frame;refine Rg.la 10 ((.slice none 0 0)) ?_;go_frame;refine Rg.la 11 (.bool false) ?_;go_frame;go_upto_region 8 with (fail);refine Rg.wl ?_;refine Rg.lm 34 (.bool false) ?_;go_frame;refine Rg.lr 35 (exec_not _ _ false rfl rfl) ?_;go_frame;go_upto_region 9 with (fail);refine Rg.wl ?_;refine Rg.la 4 (.slice none 0 0) ?_;go_frame;refine Rg.la 5 (.int .i64 ((18:Nat):Int)) ?_;go_frame;go_wp2
    go_ret2
    exact ⟨_,[],18,rfl,.inr ⟨HZ.out,_,gs,O,R,x,e1,e2,HXE.out,GX0.out,hgd,hch,.inr ⟨h2,st,HBE.out,.inl ⟨hin,rfl,rfl⟩⟩⟩,ints_nil _,K.out⟩
   case pos =>
    have hix:st.1.idxOf x<st.1.length:=List.idxOf_lt_length_of_mem hin;obtain ⟨wv,hwv⟩:∃ q,Hid (vs[st.1.idxOf x]?=some q):=⟨_,ι (List.getElem?_eq_getElem (by rw [HBM.out.vl]; exact hix))⟩
    have hwd:st.2[st.1.idxOf x]?=some (wdOf st x):=by
     have h9:st.1.idxOf x<st.2.length:=by rw [HBI.out.ln]; exact hix
     unfold wdOf;rw [List.getD_eq_getElem?_getD,List.getElem?_eq_getElem h9]; rfl
    obtain ⟨hew,wb,wo,wc,hws⟩:=HBM.out.word hwv.out hwd;subst hws;have EW:=ι hew;have HLK:=ι (look_at HBI.out.nd (fun y hy=>gd_b (HBI.out.gd y hy) (by omega)) (x:=x) (by rw [List.getElem?_eq_getElem hix,List.getElem_idxOf]) hwv.out);clear hew hwd hix;go_upto_region 7 with (fail);refine Rg.wl ?_;refine Rg.lm 28 ((.map (some mb))) ?_;go_frame;refine Rg.lm 29 (.slice xa xl.length xc) ?_;go_frame;refine Rg.lk 30 (exec_fn1 56 _ _ rfl rfl (Bgcl5 _ _)) ?_;refine (key_any (x:=x) NX.out.i (by rw [GX0.out.2]; exact hN1) (by rw [GX0.out.2]; omega) (gd_b GX0.out (by omega))).mono ?_;rintro e1 w64 ⟨rfl,hb⟩;refine ⟨_,rfl,?_⟩;go_frame;replace G0:=ι (G0.out.below hb);replace HBM:=ι (HBM.out.below hb);replace NX:=ι (NX.out.below hb);replace EW:=ι (EW.out.below hb);replace K:=ι (Rg.acc K.out hb);clear hb;have hlk:=Sm.lookup_ok stWords HBM.out.map (keyS x);rw [HLK.out,Option.getD_some,Option.isSome_some] at hlk
    refine Rg.lr 31 (Rg.exec_lookup _ _ _ _ rfl _ _ rfl rfl hlk) ?_;go_frame;clear hlk;refine Rg.lm 27 (.tuple #[.slice (some ⟨wb,wo,none⟩) (wdOf st x).length wc,.bool true]) ?_;go_frame;refine Rg.lr 32 (exec_extract (v:=.slice (some ⟨wb,wo,none⟩) (wdOf st x).length wc) _ _ rfl rfl rfl) ?_;go_frame;refine Rg.lr 33 (exec_extract (v:=.bool true) _ _ rfl rfl rfl) ?_;go_frame;refine Rg.la 10 (.slice (some ⟨wb,wo,none⟩) (wdOf st x).length wc) ?_;go_frame;refine Rg.la 11 (.bool true) ?_;go_frame;go_upto_region 8 with (fail);refine Rg.wl ?_;refine Rg.lm 34 (.bool true) ?_;go_frame;refine Rg.lr 35 (exec_not _ _ true rfl rfl) ?_;go_frame;go_upto_region 10 with (fail);refine Rg.wl ?_;refine Rg.lm 36 (.slice (some ⟨wb,wo,none⟩) (wdOf st x).length wc) ?_;go_frame;refine Rg.la 4 (.slice (some ⟨wb,wo,none⟩) (wdOf st x).length wc) ?_;go_frame;refine Rg.la 5 (.int .i64 ((0:Nat):Int)) ?_;go_frame
    go_wp2
    go_ret2
    exact ⟨_,_,0,rfl,.inr ⟨HZ.out,_,gs,O,R,x,e1,e2,HXE.out,GX0.out,hgd,hch,.inr ⟨h2,st,HBE.out,.inr ⟨hin,rfl,rfl⟩⟩⟩,EW.out.ints,K.out⟩

def PgV (d:Int) (ll:List (List Int)) (xl:List Int) (S:List Stp) (c:Int):Prop :=
 (rgC d ll xl≠0∧c=rgC d ll xl∧S=[])∨(rgC d ll xl=0∧16<d∧c=5∧S=[]) ∨
 (rgC d ll xl=0∧d≤16∧∃ (N:Nat) (gs:List (List Nat)) (x:List Nat),d=((N:Nat):Int)∧ll=gs.map Ma.ofN∧xl=Ma.ofN x∧Gd N x∧(∀ s∈gs,Gd N s) ∧
  ((¬ Gr N (·∈gs) x∧c=18∧S=[]) ∨
   (Gr N (·∈gs) x∧c=0∧S.length≤N*N*(2*N+2)+N+2∧((S=[]∧x=Ma.oneN N)∨(S≠[]∧∃ T,rn S gs=(0,T)∧T.getD (T.length - 1) []=x)))))
def PgPost (d:Int) (ll:List (List Int)) (xl:List Int) (w:World) (ed:Ending) (w':World):Prop:=∃ v S c,ed=.returned (.tuple #[v,.int .i64 c])∧PgV d ll xl S c∧StA w' v S∧Below w.heap.size w w'
theorem StA.nil (w:World):StA w (.slice none 0 0) []:=⟨none,0,rfl,fun h=>absurd h (Nat.lt_irrefl 0)⟩
structure PrK (w:World) (F:Nat→Prop) (W:World):Prop where
 b:Below w.heap.size w W
 f:∀ k,k<w.heap.size→F k
theorem PrK.up {w:World} {F:Nat→Prop} {W W':World} (h:PrK w F W) (hb:Below W.heap.size W W'):PrK w (Fup F W W') W':=⟨h.b.trans (hb.mono h.b.size),fun k hk=>.inl (h.f k hk)⟩
theorem PrK.below {w:World} {F:Nat→Prop} {W W':World} (h:PrK w F W) (hb:Below W.heap.size W W'):PrK w F W':=⟨h.b.trans (hb.mono h.b.size),h.f⟩
theorem PrK.kg {w:World} {F F':Nat→Prop} {W W':World} (h:PrK w F W) (hk:KG F W F' W'):PrK w F' W':=⟨h.b.trans (hk.kf.below h.b.size h.f),fun k q=>hk.sub k (h.f k q)⟩
structure OwE (B:Nat) (W:World) (uv:Value) (n:Nat) (us:List Value):Prop where
 r:W.ownsRow B 110 1 uv n us
theorem OwE.below {B:Nat} {W W':World} {uv:Value} {n:Nat} {us:List Value} (h:OwE B W uv n us) (hb:Below W.heap.size W W'):OwE B W' uv n us:=⟨Rg.row_below h.r hb⟩
structure BlF (w0 W:World):Prop where
 b:Below w0.heap.size w0 W
theorem BlF.below {w0 W W':World} (h:BlF w0 W) (hb:Below W.heap.size W W'):BlF w0 W':=⟨Rg.acc h.b hb⟩
theorem frows_all {w:World} {v:Value} {ll:List (List Int)} (h:Rg.Rows w v ll):Rg.FRows (fun k=>k<w.heap.size) w v ll:=by
 obtain ⟨us,h1,h2⟩:=h
 have hv:∀ {u:Value} {us:List Value},Rg.Vals w u us→Rg.FVals (fun k=>k<w.heap.size) w u us:=fun {u us} h=>by
  obtain ⟨a,cap,q1,q2,q3,q4,q5⟩:=h;refine ⟨a,cap,q1,q2,q3,q4,fun h0=>?_⟩;obtain ⟨b,o,e1,e2,e3⟩:=q5 h0;exact ⟨b,o,e1,e2,e2,e3⟩
 exact ⟨us,hv h1,h2.1,fun i a b=>hv (h2.2 i a b)⟩
theorem fp_all {w:World} {v:Value} {x:List Nat} (h:Rg.NP w v x):FP (fun k=>k<w.heap.size) w v x:=by
 obtain ⟨a,cap,q1,q2,q3,q4,q5⟩:=h;refine ⟨a,cap,q1,q2,q3,q4,fun h0=>?_⟩;obtain ⟨b,o,e1,e2,e3⟩:=q5 h0;exact ⟨b,o,e1,e2,e2,e3⟩
theorem tbInit (W:World) (nx N:Nat) (t1 t2:TypeId):∃ F,TbM W.heap.size F (W.alloc (.map #[] 0)).heap.size W.heap.size N
   ((((W.alloc (.map #[] 0)).alloc (.cells #[.slice none 0 0,.int .i64 ((nx:Nat):Int),.int .i64 ((N:Nat):Int),.map (some W.heap.size),.slice none 0 0] t1)).alloc (.cells #[.pointer none] t2)).setCell ⟨((W.alloc (.map #[] 0)).alloc (.cells #[.slice none 0 0,.int .i64 ((nx:Nat):Int),.int .i64 ((N:Nat):Int),.map (some W.heap.size),.slice none 0 0] t1)).heap.size,0,none⟩ (.pointer (some ⟨(W.alloc (.map #[] 0)).heap.size,0,none⟩)))
   [] nx [] [] [] (.slice none 0 0) (.slice none 0 0) ∧
  CF F ((((W.alloc (.map #[] 0)).alloc (.cells #[.slice none 0 0,.int .i64 ((nx:Nat):Int),.int .i64 ((N:Nat):Int),.map (some W.heap.size),.slice none 0 0] t1)).alloc (.cells #[.pointer none] t2)).setCell ⟨((W.alloc (.map #[] 0)).alloc (.cells #[.slice none 0 0,.int .i64 ((nx:Nat):Int),.int .i64 ((N:Nat):Int),.map (some W.heap.size),.slice none 0 0] t1)).heap.size,0,none⟩ (.pointer (some ⟨(W.alloc (.map #[] 0)).heap.size,0,none⟩)))
   ((W.alloc (.map #[] 0)).alloc (.cells #[.slice none 0 0,.int .i64 ((nx:Nat):Int),.int .i64 ((N:Nat):Int),.map (some W.heap.size),.slice none 0 0] t1)).heap.size 0 (.pointer (some ⟨(W.alloc (.map #[] 0)).heap.size,0,none⟩)) ∧
  (∀ k,k<W.heap.size→F k)∧Below W.heap.size W ((((W.alloc (.map #[] 0)).alloc (.cells #[.slice none 0 0,.int .i64 ((nx:Nat):Int),.int .i64 ((N:Nat):Int),.map (some W.heap.size),.slice none 0 0] t1)).alloc (.cells #[.pointer none] t2)).setCell ⟨((W.alloc (.map #[] 0)).alloc (.cells #[.slice none 0 0,.int .i64 ((nx:Nat):Int),.int .i64 ((N:Nat):Int),.map (some W.heap.size),.slice none 0 0] t1)).heap.size,0,none⟩ (.pointer (some ⟨(W.alloc (.map #[] 0)).heap.size,0,none⟩))):=by
 have hm:=Jm.KMap.new W;have hb1:Below W.heap.size W (W.alloc (.map #[] 0)):=(Below.refl _ _).alloc (Nat.le_refl _) _
 have e1:(W.alloc (.map #[] 0)).heap.size=W.heap.size+1:=by simp
 generalize W.alloc (.map #[] 0)=W1 at *;have hb2:Below W1.heap.size W1 (W1.alloc (.cells #[.slice none 0 0,.int .i64 ((nx:Nat):Int),.int .i64 ((N:Nat):Int),.map (some W.heap.size),.slice none 0 0] t1)):=(Below.refl _ _).alloc (Nat.le_refl _) _
 have e2:(W1.alloc (.cells #[.slice none 0 0,.int .i64 ((nx:Nat):Int),.int .i64 ((N:Nat):Int),.map (some W.heap.size),.slice none 0 0] t1)).heap.size=W1.heap.size+1:=by simp
 have hc:∀ o (u:Value),(#[.slice none 0 0,.int .i64 ((nx:Nat):Int),.int .i64 ((N:Nat):Int),.map (some W.heap.size),.slice none 0 0]:Array Value)[o]?=some u→Cw (W1.alloc (.cells #[.slice none 0 0,.int .i64 ((nx:Nat):Int),.int .i64 ((N:Nat):Int),.map (some W.heap.size),.slice none 0 0] t1)) W1.heap.size o u:=fun o u e=>⟨by rw [Rg.cellNew]; exact e,frozenNewN _ _ _ o _,by simp⟩;have h0:=hc 0 _ rfl;have h1:=hc 1 _ rfl;have h2:=hc 2 _ rfl;have h3:=hc 3 _ rfl;have h4:=hc 4 _ rfl;clear hc;have hm2:=hm.below hb2;have hb12:=hb1.trans (hb2.mono hb1.size);generalize W1.alloc (.cells #[.slice none 0 0,.int .i64 ((nx:Nat):Int),.int .i64 ((N:Nat):Int),.map (some W.heap.size),.slice none 0 0] t1)=W2 at *
 have hT:TbM W.heap.size (fun k=>k<W.heap.size) W1.heap.size W.heap.size N W2 [] nx [] [] [] (.slice none 0 0) (.slice none 0 0):=by
  refine ⟨fun k hk=>Nat.lt_of_lt_of_le hk hb12.size,h0,h1,h2,h3,h4,Own3.nil _ _,World.ownsRow_nil _ _ _ _,hm2,fun e he=>(by cases he),?_,⟨by omega,fun e=>(by cases e),fun e=>(by cases e),fun e=>(by cases e),fun e=>(by cases e),fun k e=>(by cases e),fun e he=>(by cases he),fun e he=>(by cases he),fun e he=>(by cases he),fun e he=>(by cases he),List.nodup_nil⟩,hb12.size⟩
  rintro k hk (e | e | e | e | ⟨e,he,_⟩)
  ·omega
  ·omega
  ·cases e
  ·cases e
  ·cases he
 have c0:(W2.alloc (.cells #[.pointer none] t2)).cell? ⟨W2.heap.size,0,none⟩=some (.pointer none):=by rw [Rg.cellNew]; rfl
 have hb3:Below W2.heap.size W2 ((W2.alloc (.cells #[.pointer none] t2)).setCell ⟨W2.heap.size,0,none⟩ (.pointer (some ⟨W1.heap.size,0,none⟩))):=((Below.refl _ _).alloc (Nat.le_refl _) _).setCell (p:=⟨W2.heap.size,0,none⟩) (Nat.le_refl _) _
 have hlt:W2.heap.size<((W2.alloc (.cells #[.pointer none] t2)).setCell ⟨W2.heap.size,0,none⟩ (.pointer (some ⟨W1.heap.size,0,none⟩))).heap.size:=by simp [World.setCell]
 exact ⟨_,hT.up hb3,⟨World.cell?_setCell_same (h:=c0) ..,.inr ⟨Nat.le_refl _,hlt⟩,hlt⟩,fun k hk=>.inl hk,hb12.trans (hb3.mono hb12.size)⟩
theorem sift_p {B:Nat} {F0:Nat→Prop} {tb mb N:Nat} {w:World} {gs:List (List Nat)} {S:List Stp} {T:List (List Nat)} {nx:Nat} {es:List En} {sv lv:Value} (hp:Tb N gs S T es) (h:TbM B F0 tb mb N w S nx es es es sv lv) (hn1:1≤N) (hn2:N≤64) {xv:Value} {x:List Nat} (hx:FP F0 w xv x) (gx:Cm.Gd N x) :
  Calls Tryz.prog 65 #[.pointer (some ⟨tb,0,none⟩),xv] w fun ed w'=>∃ (uv rv:Value) (x9 y9:Int),ed=.returned (.tuple #[uv,rv,.agg #[.int .i64 x9,.int .i64 y9],.bool (decide ((Cm.sfP N (Cm.idT N (trE es)) N x).1<N))])∧OwE w.heap.size w' uv (usE es N N x).length ((usE es N N x).map enP)∧Below w.heap.size w w':=by
 refine (sift_t hp h hn1 hn2 hx gx).mono ?_;rintro e w' ⟨F',uv,rv,x9,y9,rfl,h1,h2,h3,h4,h5,h6,h7⟩;exact ⟨uv,rv,x9,y9,rfl,⟨h5⟩,h4⟩
theorem run_sliceE1 (b o m c:Nat) (h:m≤c):∃ ca:Addr,(∀ w:World,(Instr.sliceAt 102 (.slice (some ⟨b,o,none⟩) (m+1) (c+1)) (some (.int .i64 1)) none none).run Tryz.prog w=.ok (.slice (some ca) m c) w)∧(0<m→ca=⟨b,o+1,none⟩):=by
 by_cases e:c=0
 ·refine ⟨⟨b,o,none⟩,fun w=>?_,fun h=>by omega⟩
  obtain rfl:m=0:=by omega
  subst e;simp [Instr.sliceAt,Instr.slice,run_underlying Tryz.underlying102,Instr.sliceBounds,Instr.sliceBound,asIntOf,Addr.add]
 ·refine ⟨⟨b,o+1,none⟩,fun w=>?_,fun _=>rfl⟩
  simp [Instr.sliceAt,Instr.slice,run_underlying Tryz.underlying102,Instr.sliceBounds,Instr.sliceBound,asIntOf,Addr.add,e];intro hh;omega
theorem OwE.split {B:Nat} {W:World} {uv:Value} {n:Nat} {a:Value} {l:List Value} (h:OwE B W uv n (a :: l)):∃ g c ca,uv=.slice (some ⟨g,0,none⟩) (l.length+1) (c+1)∧n=l.length+1∧W.cell? ⟨g,0+0,none⟩=some a∧g<W.heap.size∧B≤g ∧
  (∀ w:World,(Instr.sliceAt 102 (.slice (some ⟨g,0,none⟩) (l.length+1) (c+1)) (some (.int .i64 1)) none none).run Tryz.prog w=.ok (.slice (some ca) l.length c) w)∧∀ M:Nat→Prop,¬ M g→RdV M W (some ca) l:=by
 obtain ⟨h1⟩:=h
 have hn:n=l.length+1:=by have:=h1.1; simp at this; omega
 subst hn;obtain ⟨g,c0,u,e1,e2,e3,e4⟩:=row_of h1 (k:=0) (by omega)
 have hu:u=a:=by
  rw [List.getElem?_cons_zero] at e3;exact (Option.some.inj e3).symm
 have hcap:l.length+1≤c0:=by
  obtain ⟨q1,q2⟩:=h1
  rcases q2 with ⟨q3,_⟩ | ⟨g',cap,cur,q3,_,_,q4,_⟩
  ·rw [q3] at e1; simp at e1
  ·rw [q3] at e1
   simp only [Value.slice.injEq,true_and] at e1;omega
 obtain ⟨c,rfl⟩:∃ c,c0=c+1:=⟨c0 - 1,by omega⟩;obtain ⟨ca,r1,r2⟩:=run_sliceE1 g 0 l.length c (by omega);refine ⟨g,c,ca,e1,rfl,by rw [e2,hu],e4,(World.ownsRow.lt h1 g (by rw [e1]; rfl)).1,r1,fun M hM hl=>?_⟩;refine ⟨g,0+1,by rw [r2 hl],e4,hM,fun i hi=>?_⟩;obtain ⟨g',c',u',f1,f2,f3,f4⟩:=row_of h1 (k:=i+1) (by omega);rw [e1] at f1;simp only [Value.slice.injEq,Option.some.injEq,Addr.mk.injEq,and_true,true_and] at f1;obtain ⟨rfl,_⟩:=f1;rw [show 0+1+i=0+(i+1) by omega,f2,← f3,List.getElem?_cons_succ,List.getElem?_eq_getElem hi]
end Go.Proofs.YtdnmmibchbceeaaGreat
