/- Lemmas and contracts on the way to the statement; no condition of their own beyond those written. -/
import Derived.Test.YtdnmmibchbceeaaGreatXWrtoZj
import Derived.RangeFuncWrites
import Derived.RangeFuncNested
import Derived.RangeFuncBox
import Derived.RangeFuncLeaves
import Derived.Shelf.Abstract
import Derived.OwnWalkIn
import Derived.TacticsInMore
import Derived.LoopNIn
import Derived.LoopIn
import Derived.Maps.AppendAt
import Derived.Sort.CutIn
import Derived.Deep.CutRange
import Derived.Deep.CutBlock
import Derived.IntWalk
import Derived.Great.BuildSlice
import Derived.ArgAppend
import Derived.Laws.CopyOwn
import Derived.StillTailTactics
import Derived.Deep.MidRow
import Derived.WalkSpells
import Derived.WalkLawsBesides
import Derived.OwnWalk
import Derived.OrdersHeld
import Derived.Deep.OwnRows
import Derived.WalkKit
import Derived.Lib.Hide
import Derived.Laws.OwnMore
import Derived.Test.YtdnmmibchbceeaaGreatProg
import Derived.Outline
import Derived.Deep.DeepFit
import Derived.BigQuiet
import Derived.Deep.QuietTactic
import Derived.Sort.OwnSortedInts
import Derived.WideMake
import Derived.MapKept
import Derived.ChangeMaps5
import Derived.Shelf.Sort.Plain
import Derived.Lib.ConvBytes
import Derived.ChangeKeysEq
import Derived.Laws.Cells
import Derived.Laws.Rows
import Derived.Laws.Tables
import Derived.Deep.WholeRow
import Derived.OrdersIn
import Derived.TacticsIn
import Derived.Deep.LoopGhost
import Derived.Lib.SlicesSearch
import Derived.Stop.BytesEq
set_option linter.unusedVariables false
set_option linter.unusedSimpArgs false
set_option maxRecDepth 100000
set_option maxHeartbeats 8000000
namespace Go.Proofs.YtdnmmibchbceeaaGreat
open Go.RowKit
open Go.Proofs
open Go.Proofs.Ob
open Go.Proofs.Cm (Gd)
attribute [local irreducible] Go.Calls Go.wpList
theorem Zkcl0 (args:Array Value) (w:World):(callFunc 37 args).run Tryz.prog w=.ok (.enter 37 args) w:=by kernel_rfl
theorem Zkcl1 (args:Array Value) (w:World):(callFunc 70 args).run Tryz.prog w=.ok (.enter 70 args) w:=by kernel_rfl
def RwAt (w:World) (g n:Nat) (f:Nat→Int):Prop:=g<w.heap.size∧(∀ i,i<n→w.cell? ⟨g,i,none⟩=some (.int .i64 (f i)))∧∀ i,w.frozen? ⟨g,i,none⟩=false
theorem RwAt.congr {w:World} {g n:Nat} {f f':Nat→Int} (h:RwAt w g n f) (e:∀ i,i<n→f i=f' i):RwAt w g n f' :=
 ⟨h.1,fun i hi=>by rw [← e i hi]; exact h.2.1 i hi,h.2.2⟩
theorem RwAt.set {w:World} {g n:Nat} {f:Nat→Int} (h:RwAt w g n f) (k:Nat) (v:Int) (hk:k<n):RwAt (w.setCell ⟨g,k,none⟩ (.int .i64 v)) g n (fun i=>if i=k then v else f i):=by
 refine ⟨by simpa using h.1,fun i hi=>?_,fun i=>by rw [World.frozen?_setCell]; exact h.2.2 i⟩;show _=some (Value.int .i64 (if i=k then v else f i))
 by_cases e:i=k
 ·subst e
  rw [if_pos rfl];exact World.cell?_setCell_same (h:=h.2.1 i hi) ..
 ·rw [if_neg e,World.cell?_setCell_other (h:=by intro h; injection h with h1 h2; omega) ..]
  exact h.2.1 i hi
theorem RwAt.kp {M:Nat→Prop} {w w':World} {g n:Nat} {f:Nat→Int} (h:RwAt w g n f) (hk:Rg.Kp M w w') (hM:¬ M g):RwAt w' g n f :=
 ⟨Nat.lt_of_lt_of_le h.1 hk.size,fun i hi=>(World.cell?_of_block (a:=⟨g,i,none⟩) (hk.block g h.1 hM)).trans (h.2.1 i hi),fun i=>(World.frozen?_of_block (a:=⟨g,i,none⟩) (hk.block g h.1 hM)).trans (h.2.2 i)⟩
theorem RwAt.below {w w':World} {g n:Nat} {f:Nat→Int} (h:RwAt w g n f) (hb:Below w.heap.size w w'):RwAt w' g n f:=h.kp (M:=fun _=>False) (Rg.Kp.of_below hb) id
theorem RwAt.np {w:World} {g n cap:Nat} {f:Nat→Int} (h:RwAt w g n f) (l:List Nat) (hl:l.length=n) (hc:n≤cap) (hm:cap≤maxLen) (hn:n≤1000) (e:∀ i (hi:i<l.length),f i=((l[i]:Nat):Int)):Rg.NP w (.slice (some ⟨g,0,none⟩) n cap) l:=by
 refine Rg.Ints.mk (by simp [Ma.ofN,hl]) h.1 (by simp [Ma.ofN]; omega) hm (by simp [Ma.ofN]; omega) fun i hi=>?_
 have hi':i<l.length:=by simpa [Ma.ofN] using hi
 rw [Nat.zero_add,h.2.1 i (by omega),e i hi'];simp [Ma.ofN]
def PRow (w:World) (g n:Nat) (y:List Nat):Prop:=RwAt w g n (fun i=>((y.getD i 0:Nat):Int))
theorem PRow.np {w:World} {g n cap:Nat} {y:List Nat} (h:PRow w g n y) (gy:Gd n y) (hc:n≤cap) (hm:cap≤maxLen) (hn:n≤1000):Rg.NP w (.slice (some ⟨g,0,none⟩) n cap) y :=
 RwAt.np h y gy.2 hc hm hn (fun i hi=>by show ((y.getD i 0:Nat):Int)=_; rw [List.getD_eq_getElem?_getD,List.getElem?_eq_getElem hi]; rfl)
theorem PRow.below {w w':World} {g n:Nat} {y:List Nat} (h:PRow w g n y) (hb:Below w.heap.size w w'):PRow w' g n y:=RwAt.below h hb
theorem kitOne_row (n:Nat) (w:World) (h1:1≤n) (hn:n≤1000) :
  Calls Tryz.prog 37 #[.int .i64 n] w fun e w'=>∃ g cap,e=.returned (.slice (some ⟨g,0,none⟩) n cap)∧w.heap.size≤g∧n≤cap∧cap≤maxLen∧RwAt w' g n (fun i=>(i:Int))∧Below w.heap.size w w':=by
 go_enter Tryz.func37,Tryz.ntmps37
 go_wp2
 go_loopw [3,4] (fun v i wr=>∃ k:Nat,k≤n∧i=.int .i64 k∧Hid (wr.ownsRow w.heap.size 3 1 v k (ivs (Ma.oneN k)))∧Hid (Below w.heap.size w wr)) (fun _ i _=>n - (intOf i).toNat)
 case atStart=>exact ⟨0,by omega,rfl,World.ownsRow_nil _ _ _ _,Below.refl _ _⟩
 case round =>
  obtain ⟨k,hk,rfl,hs,hbel⟩:=hrel
  by_cases hlt:k<n
  ·go_wp2_with (at_builtin; refine Rg.app1 rfl _ _ 30 rfl slPerm hs.out hbel.out _ (by simp [Value.oneCell']) rfl rfl (by omega) ?_; intro v' w1 hs1 hb1 _ _ _)
   go_roundw
   case rel=>exact ⟨k+1,by omega,by go_num,by rw [show Ma.oneN (k+1)=Ma.oneN k++[k] from List.range_succ,ivs_snoc]; exact hs1,hb1⟩
   case measure=>simp [intOf]; omega
  ·obtain rfl:k=n:=by omega
   go_wp2;go_ret;have ho:=hs.out
   obtain ⟨_,⟨_,h0⟩ | ⟨g,cap,cur,rfl,hg,hc,h3,h4,h5,h6⟩⟩:=hs.out
   ·omega
   ·refine ⟨g,cap,rfl,hg,h3,h4,⟨(ho.lt g rfl).2,fun i hi=>?_,fun i=>ho.frozenAt i⟩,hbel.out⟩
    have:=ho.cellAt i (by omega);rw [this];simp [ivs,Ma.oneN,hi]
def cyF (a b i:Nat):Nat:=if a≤i∧i+1<b then i+1 else if i+1=b then a else i
def cyN (n a b:Nat):List Nat:=(List.range n).map (cyF a b)
theorem nd_map {n:Nat} {f:Nat→Nat} (h:∀ a b,a<n→b<n→f a=f b→a=b):((List.range n).map f).Nodup:=by
 rw [List.Nodup,List.pairwise_map];exact List.Pairwise.imp_of_mem (fun {a b} ha hb hne e=>hne (h a b (List.mem_range.1 ha) (List.mem_range.1 hb) e)) List.nodup_range
theorem gd_map {n:Nat} {f:Nat→Nat} (h1:∀ a,a<n→f a<n) (h:∀ a b,a<n→b<n→f a=f b→a=b):Gd n ((List.range n).map f):=by
 refine ⟨⟨fun x hx=>?_,nd_map h⟩,by simp⟩;obtain ⟨a,ha,rfl⟩:=List.mem_map.1 hx
 simpa using h1 a (List.mem_range.1 ha)
theorem getD_map {n i:Nat} {f:Nat→Nat} (h:i<n):((List.range n).map f).getD i 0=f i:=by
 rw [List.getD_eq_getElem?_getD,List.getElem?_eq_getElem (by simpa using h)]; simp
theorem cyN_gd {n a b:Nat} (hab:a<b) (hb:b≤n):Gd n (cyN n a b):=by
 refine gd_map (fun i hi=>?_) (fun i j hi hj e=>?_)
 ·unfold cyF; split
  ·omega
  ·split <;> omega
 ·have key:∀ x,(a≤x∧x+1<b∧cyF a b x=x+1)∨(x+1=b∧cyF a b x=a)∨((x<a∨b≤x)∧cyF a b x=x):=fun x=>by
   unfold cyF
   by_cases h1:a≤x∧x+1<b
   ·exact .inl ⟨h1.1,h1.2,if_pos h1⟩
   ·by_cases h2:x+1=b
    ·exact .inr (.inl ⟨h2,by rw [if_neg h1,if_pos h2]⟩)
    ·exact .inr (.inr ⟨by omega,by rw [if_neg h1,if_neg h2]⟩)
  rcases key i with ⟨_,_,e1⟩ | ⟨_,e1⟩ | ⟨_,e1⟩ <;> rcases key j with ⟨_,_,e2⟩ | ⟨_,e2⟩ | ⟨_,e2⟩ <;> omega
theorem cycle_any {w:World} {g n cap a b:Nat} (h:RwAt w g n (fun i=>(i:Int))) (hab:a<b) (hb:b≤n) (hn:n≤1000) :
  Calls Tryz.prog 71 #[.slice (some ⟨g,0,none⟩) n cap,.int .i64 a,.int .i64 b] w fun e w'=>e=.returned (.slice (some ⟨g,0,none⟩) n cap)∧PRow w' g n (cyN n a b)∧Rg.Kp (fun z=>z=g) w w':=by
 have H:=ι (show RwAt w g n (fun j=>if a≤j∧j<a then ((j:Nat):Int)+1 else (j:Int)) from h.congr fun i _=>by rw [if_neg (by omega)]);have K:=ι (Rg.Kp.refl (fun z=>z=g) w);clear h
 go_enter Tryz.func71,Tryz.ntmps71
 go_wp2
 go_loopw [7] (fun iv wr=>∃ k:Nat,iv=.int .i64 k∧a≤k∧k≤b∧Hid (RwAt wr g n (fun j=>if a≤j∧j<k then ((j:Nat):Int)+1 else (j:Int)))∧Hid (Rg.Kp (fun z=>z=g) w wr)) (fun iv _=>b - (intOf iv).toNat)
 case atStart=>exact ⟨a,rfl,Nat.le_refl _,by omega,H,K⟩
 case round =>
  clear H K;obtain ⟨k,rfl,hak,hkb,H,K⟩:=hrel
  by_cases hlt:k<b
  ·have c1:=H.out.2.1 k (by omega)
   have f1:=H.out.2.2 k;have hs:=ι (H.out.set k ((k:Int)+1) (by omega));have hk2:=ι (Rg.Kp.trans (M:=fun z=>z=g) K.out (Rg.Kp.of_setCell (M:=fun z=>z=g) (a:=⟨g,k,none⟩) (v:=.int .i64 ((k:Int)+1)) rfl) (fun _ _ e=>e));go_wp2
   go_roundw
   case rel=>exact ⟨k+1,by go_num,by omega,hlt,ι (hs.out.congr fun i hi=>by
    by_cases e:i=k
    ·subst e; rw [if_pos rfl,if_pos (by omega)]
    ·rw [if_neg e]
     by_cases e2:a≤i∧i<k
     ·rw [if_pos e2,if_pos (by omega)]
     ·rw [if_neg e2,if_neg (by omega)]),hk2⟩
   case measure=>simp [intOf]; omega
  ·obtain rfl:k=b:=by omega
   obtain ⟨c,rfl⟩:∃ c,k=c+1:=⟨k - 1,by omega⟩;have c1:=H.out.2.1 c (by omega);have f1:=H.out.2.2 c;have hs:=ι (H.out.set c (a:Int) (by omega));have hk2:=ι (Rg.Kp.trans (M:=fun z=>z=g) K.out (Rg.Kp.of_setCell (M:=fun z=>z=g) (a:=⟨g,c,none⟩) (v:=.int .i64 (a:Int)) rfl) (fun _ _ e=>e));go_wp2;go_ret;refine ⟨rfl,RwAt.congr hs.out fun i hi=>?_,hk2.out⟩;show _=((((List.range n).map (cyF a (c+1))).getD i 0:Nat):Int);rw [getD_map hi];unfold cyF
   by_cases e:i=c
   ·subst e; rw [if_pos rfl,if_neg (by omega),if_pos rfl]
   ·rw [if_neg e]
    by_cases e2:a≤i∧i<c+1
    ·rw [if_pos e2,if_pos (by omega)]; rfl
    ·rw [if_neg e2,if_neg (by omega),if_neg (by omega)]
def swF (y:List Nat) (i k j:Nat):Nat:=if j=k then y.getD i 0 else if j=i then y.getD k 0 else y.getD j 0
def swN (n:Nat) (y:List Nat) (i k:Nat):List Nat:=(List.range n).map (swF y i k)
theorem swN_gd {n i k:Nat} {y:List Nat} (gy:Gd n y) (hi:i<n) (hk:k<n):Gd n (swN n y i k):=by
 have h1:∀ j,j<n→y.getD j 0<n:=fun j hj=>Cm.ap_lt gy hj;have h2:∀ a b,a<n→b<n→y.getD a 0=y.getD b 0→a=b:=fun a b ha hb e=>Cm.ap_inj gy ha hb e;refine gd_map (fun j hj=>?_) (fun a b ha hb e=>?_)
 ·unfold swF; split
  ·exact h1 _ hi
  ·split
   ·exact h1 _ hk
   ·exact h1 _ hj
 ·unfold swF at e
  by_cases a1:a=k
  ·rw [if_pos a1] at e
   by_cases b1:b=k
   ·omega
   ·rw [if_neg b1] at e
    by_cases b2:b=i
    ·rw [if_pos b2] at e; have:=h2 _ _ hi hk e; omega
    ·rw [if_neg b2] at e; have:=h2 _ _ hi hb e; omega
  ·rw [if_neg a1] at e
   by_cases a2:a=i
   ·rw [if_pos a2] at e
    by_cases b1:b=k
    ·rw [if_pos b1] at e; have:=h2 _ _ hk hi e; omega
    ·rw [if_neg b1] at e
     by_cases b2:b=i
     ·omega
     ·rw [if_neg b2] at e; have:=h2 _ _ hk hb e; omega
   ·rw [if_neg a2] at e
    by_cases b1:b=k
    ·rw [if_pos b1] at e; have:=h2 _ _ ha hi e; omega
    ·rw [if_neg b1] at e
     by_cases b2:b=i
     ·rw [if_pos b2] at e; have:=h2 _ _ ha hk e; omega
     ·rw [if_neg b2] at e; exact h2 _ _ ha hb e
theorem PRow.swap {w:World} {g n i k:Nat} {y:List Nat} (h:PRow w g n y) (hi:i<n) (hk:k<n):PRow ((w.setCell ⟨g,i,none⟩ (.int .i64 ((y.getD k 0:Nat):Int))).setCell ⟨g,k,none⟩ (.int .i64 ((y.getD i 0:Nat):Int))) g n (swN n y i k):=by
 refine RwAt.congr ((RwAt.set h i _ hi).set k _ hk) fun j hj=>?_;show _=((((List.range n).map (swF y i k)).getD j 0:Nat):Int);rw [getD_map hj];unfold swF
 by_cases e:j=k
 ·rw [if_pos e,if_pos e]
 ·rw [if_neg e,if_neg e]
  by_cases e2:j=i
  ·rw [if_pos e2,if_pos e2]
  ·rw [if_neg e2,if_neg e2]
theorem oneN_row {w:World} {g n:Nat} (h:RwAt w g n (fun i=>(i:Int))):PRow w g n (Ma.oneN n):=RwAt.congr h fun i hi=>by
 have:=Cm.ap_one hi;unfold Cm.ap at this;rw [this]
def PePost (w0 w:World) (tk:Nat) (lv:Value) (l:List Int) (n:Nat) (e:Ending) (w':World):Prop:=∃ g cap y k',e=.returned (.slice (some ⟨g,0,none⟩) n cap)∧w.heap.size≤g∧n≤cap∧cap≤maxLen∧Gd n y∧PRow w' g n y∧Tk w0 w' tk k' lv l∧Rg.Kp (fun z=>z=tk) w w'
theorem kitPerm_any {w0 w:World} {tk k:Nat} {lv:Value} {l:List Int} (h:Tk w0 w tk k lv l) {n:Nat} (hn1:1≤n) (hn2:n≤64) :
  Calls Tryz.prog 36 #[.pointer (some ⟨tk,0,none⟩),.int .i64 ((n:Nat):Int)] w (PePost w0 w tk lv l n):=by
 have TK:=ι h;have K:=ι (Rg.Kp.refl (fun z=>z=tk) w);have HLO:=ι h.lo;have HLT:=ι h.lt;have HWW:=ι h.bel.size;clear h
 go_enter Tryz.func36,Tryz.ntmps36
 go_upto_region 1 with (fail);refine Rg.wl ?_;refine Rg.lm 8 (.int .i64 ((n:Nat):Int)) ?_;go_frame;refine Rg.lk 9 (exec_fn1 37 _ _ rfl rfl (Zkcl0 _ _)) ?_;refine (kitOne_row n w hn1 (by omega)).mono ?_;rintro e1 w1 ⟨g,cap,rfl,hg,hc1,hc2,hro,hb⟩;have HG:=ι hg;have HCP:=ι (show n≤cap∧cap≤maxLen from ⟨hc1,hc2⟩);have hrp:=oneN_row hro;clear hg hc1 hc2 hro;refine ⟨_,rfl,?_⟩;go_frame;replace TK:=ι (TK.out.below hb);replace K:=ι (kpAcc K.out hb);clear hb;have PR:=ι hrp;refine Rg.la 5 (.slice (some ⟨g,0,none⟩) n cap) ?_;go_frame;go_upto_region 2 with (fail);refine Rg.wl ?_;refine Rg.la 6 (.int .i64 ((0:Nat):Int)) ?_;go_frame;clear hrp;have GY:=ι (Cm.gd_one n);go_wp2
 go_loopw [6] (fun iv wr=>∃ (i k':Nat) (y:List Nat),iv=.int .i64 i∧i≤n∧Hid (PRow wr g n y)∧Hid (Gd n y)∧Hid (Tk w0 wr tk k' lv l)∧Hid (Rg.Kp (fun z=>z=tk) w wr)) (fun iv _=>n - (intOf iv).toNat)
 case atStart=>exact ⟨0,k,_,rfl,Nat.zero_le _,PR,GY,TK,K⟩
 case round =>
  clear PR GY TK K;obtain ⟨i,k',y,rfl,hi,PR,GY,TK,K⟩:=hrel
  by_cases hin:i+1<n
  ·have hiN:(i:Int)+1<(n:Int):=by omega
   go_upto_region 3 with (fail);refine Rg.wl ?_;refine Rg.lm 10 (.int .i64 ((i:Nat):Int)) ?_;go_frame;refine Rg.lr 11 (exec_bin (R:=.int .i64 (((i+1):Nat):Int)) .add _ _ _ rfl rfl rfl (b_add _ (by omega) (by omega))) ?_;go_frame;refine Rg.lm 12 (.int .i64 ((n:Nat):Int)) ?_;go_frame;refine Rg.lr 13 (exec_bin (R:=.bool true) .lss _ _ _ rfl rfl rfl (b_lss _ Rg.dT)) ?_;go_frame;go_upto_region 5 with (fail);refine Rg.wl ?_;refine Rg.lm 16 (.int .i64 ((i:Nat):Int)) ?_;go_frame;refine Rg.lm 17 (.pointer (some ⟨tk,0,none⟩)) ?_;go_frame;refine Rg.lm 18 (.int .i64 ((n:Nat):Int)) ?_;go_frame;refine Rg.lm 19 (.int .i64 ((i:Nat):Int)) ?_;go_frame;refine Rg.lr 20 (exec_bin (R:=.int .i64 (((n - i):Nat):Int)) .sub _ _ _ rfl rfl rfl (b_sub _ (by omega) (by omega))) ?_;go_frame;refine Rg.lk 21 (exec_fn 70 _ _ _ rfl rfl rfl (Zkcl1 _ _)) ?_;refine (Take_any TK.out ((n - i:Nat):Int) (by omega)).mono ?_
   rintro e1 w21 ⟨r,k2,rfl,hr1,hr2,htk,hkp⟩
   have hri:r<n - i:=by have:=hr1 (by omega); omega
   have hpr2:=RwAt.kp PR.out hkp (fun e=>by have:=HLT.out; have:=HG.out; omega);clear hr1 hr2;refine ⟨_,rfl,?_⟩;go_frame;clear TK;replace PR:=ι hpr2;replace K:=ι (Rg.Kp.trans (M:=fun z=>z=tk) K.out hkp (fun _ _ e=>e));have TK2:=ι htk;clear hkp hpr2;refine Rg.lr 22 (exec_bin (R:=.int .i64 (((i+r):Nat):Int)) .add _ _ _ rfl rfl rfl (b_add _ (by omega) (by omega))) ?_;go_frame;refine Rg.la 7 (.int .i64 (((i+r):Nat):Int)) ?_;go_frame;clear htk
   have hkn:i+r<n:=by omega
   have hin2:i<n:=by omega
   go_upto_region 6 with (fail);have hV1:Below w21.heap.size w21 w21.drew:=(Below.refl _ _).drew;replace PR:=ι (PRow.below PR.out hV1);replace TK2:=ι (TK2.out.below hV1);replace K:=ι (kpAcc K.out hV1);clear hV1;have hV0:Below w21.heap.size w21 w21.drew:=(Below.refl _ _).drew;generalize Fup (fun _:Nat=>True) w21 w21.drew=F1 at *;clear hV0;refine Rg.Any.begin (S:=Rg.Both 13 (fun W:World=>W.cell? ⟨g,i,none⟩=some (.int .i64 ((y.getD i 0:Nat):Int))∧W.cell? ⟨g,i+r,none⟩=some (.int .i64 ((y.getD (i+r) 0:Nat):Int))) (fun _=>True)) mix ?_;generalize w21.drew=w22 at *;have hS:∀ (l:Array Bool) W,(fun W:World=>W.cell? ⟨g,i,none⟩=some (.int .i64 ((y.getD i 0:Nat):Int))∧W.cell? ⟨g,i+r,none⟩=some (.int .i64 ((y.getD (i+r) 0:Nat):Int))) W→Rg.Both 13 (fun W:World=>W.cell? ⟨g,i,none⟩=some (.int .i64 ((y.getD i 0:Nat):Int))∧W.cell? ⟨g,i+r,none⟩=some (.int .i64 ((y.getD (i+r) 0:Nat):Int))) (fun _=>True) l W:=fun l W h=>⟨.inr h,trivial⟩
   have hS2:∀ (l:Array Bool) W,l.getD 13 false=true→Rg.Both 13 (fun W:World=>W.cell? ⟨g,i,none⟩=some (.int .i64 ((y.getD i 0:Nat):Int))∧W.cell? ⟨g,i+r,none⟩=some (.int .i64 ((y.getD (i+r) 0:Nat):Int))) (fun _=>True) l W:=fun l W h=>⟨.inl h,trivial⟩;have hI:(fun W:World=>W.cell? ⟨g,i,none⟩=some (.int .i64 ((y.getD i 0:Nat):Int))∧W.cell? ⟨g,i+r,none⟩=some (.int .i64 ((y.getD (i+r) 0:Nat):Int))) w22:=⟨PR.out.2.1 i hin2,PR.out.2.1 (i+r) hkn⟩;refine Rg.tm 0 13 (.slice (some ⟨g,0,none⟩) n cap) 23 (hS _ _ hI) ?_;go_frame;refine Rg.tm 1 13 (.int .i64 ((i:Nat):Int)) 24 (hS _ _ hI) ?_;go_frame;refine Rg.tm 2 13 (.slice (some ⟨g,0,none⟩) n cap) 25 (hS _ _ hI) ?_;go_frame;refine Rg.tm 3 13 (.int .i64 (((i+r):Nat):Int)) 26 (hS _ _ hI) ?_;go_frame;refine Rg.tm 4 13 (.slice (some ⟨g,0,none⟩) n cap) 27 (hS _ _ hI) ?_;go_frame
   refine Rg.tm 5 13 (.int .i64 (((i+r):Nat):Int)) 28 (hS _ _ hI) ?_;go_frame;refine Rg.tg 6 13 (.pointer (some ⟨g,0+(i+r),none⟩)) 29 rfl rfl (Rg.yields_index slPerm _ _ rfl rfl g (0) (n) cap ((i+r)) rfl rfl hkn) (hS _ _ hI) ?_;go_frame;refine Rg.Any.takeT (i:=7) (t:=13) (v:=.int .i64 (((y.getD (i+r) 0):Nat):Int)) (some 30) rfl rfl (by kernel_rfl) (by kernel_rfl) (by kernel_rfl) (fun _ _ _ h=>h) rfl (by kernel_rfl) rfl (Rg.yields_cell _ _ rfl rfl ⟨g,0+(i+r),none⟩ rfl (fun W hW=>run_loadInt (by rw [Nat.zero_add]; exact hW.2))) (hS _ _ hI) ?_;go_frame;refine Rg.tm 8 13 (.slice (some ⟨g,0,none⟩) n cap) 31 (hS _ _ hI) ?_;go_frame;refine Rg.tm 9 13 (.int .i64 ((i:Nat):Int)) 32 (hS _ _ hI) ?_;go_frame;refine Rg.tg 10 13 (.pointer (some ⟨g,0+i,none⟩)) 33 rfl rfl (Rg.yields_index slPerm _ _ rfl rfl g (0) (n) cap (i) rfl rfl hin2) (hS _ _ hI) ?_;go_frame
   refine Rg.Any.takeT (i:=11) (t:=13) (v:=.int .i64 (((y.getD i 0):Nat):Int)) (some 34) rfl rfl (by kernel_rfl) (by kernel_rfl) (by kernel_rfl) (fun _ _ _ h=>h) rfl (by kernel_rfl) rfl (Rg.yields_cell _ _ rfl rfl ⟨g,0+i,none⟩ rfl (fun W hW=>run_loadInt (by rw [Nat.zero_add]; exact hW.1))) (hS _ _ hI) ?_;go_frame;refine Rg.tg 12 13 (.pointer (some ⟨g,0+i,none⟩)) 35 rfl rfl (Rg.yields_index slPerm _ _ rfl rfl g (0) (n) cap (i) rfl rfl hin2) (hS _ _ hI) ?_;go_frame;refine Rg.Any.one (i:=13) (by kernel_rfl) (Rg.Any.runSkip none rfl rfl rfl (Rg.exec_store _ _ _ rfl _ rfl _ rfl (run_storeInt _ (by rw [Nat.zero_add]; exact PR.out.2.1 i hin2) (PR.out.2.2 _))) (hS2 _ _ rfl) ?_);go_frame;refine Rg.tg 14 13 (.pointer (some ⟨g,0+(i+r),none⟩)) 36 rfl rfl (Rg.yields_index slPerm _ _ rfl rfl g (0) (n) cap ((i+r)) rfl rfl hkn) (hS2 _ _ rfl) ?_;go_frame;obtain ⟨u2,hu2⟩:∃ u,(w22.setCell ⟨g,0+i,none⟩ (.int .i64 ((y.getD (i+r) 0:Nat):Int))).cell? ⟨g,0+(i+r),none⟩=some u:=⟨_,by rw [Nat.zero_add,Nat.zero_add]; exact (RwAt.set PR.out i _ hin2).2.1 (i+r) hkn⟩
   refine Rg.Any.one (i:=15) (by kernel_rfl) (Rg.Any.runSkip none rfl rfl rfl (Rg.exec_store _ _ _ rfl _ rfl _ rfl (run_storeInt _ hu2 (by rw [World.frozen?_setCell]; exact PR.out.2.2 _))) (hS2 _ _ rfl) ?_);go_frame;refine Rg.Any.done (by kernel_rfl) ?_ _;clear hS2;clear hS hI;have hsw:=PR.out.swap hin2 hkn;have hkk:=Rg.Kp.trans (M:=fun z=>z=g) (Rg.Kp.of_setCell (M:=fun z=>z=g) (w:=w22) (a:=⟨g,i,none⟩) (v:=.int .i64 ((y.getD (i+r) 0:Nat):Int)) rfl) (Rg.Kp.of_setCell (M:=fun z=>z=g) (a:=⟨g,i+r,none⟩) (v:=.int .i64 ((y.getD i 0:Nat):Int)) rfl) (fun _ _ e=>e);have e0:0+i=i:=Nat.zero_add i;have e1:0+(i+r)=i+r:=Nat.zero_add _;rw [e0,e1];generalize (w22.setCell ⟨g,i,none⟩ (.int .i64 ((y.getD (i+r) 0:Nat):Int))).setCell ⟨g,i+r,none⟩ (.int .i64 ((y.getD i 0:Nat):Int))=w99 at *;have PR2:=ι hsw;have GY2:=ι (swN_gd GY.out hin2 hkn)
   have TK3:=ι (TK2.out.kp hkk (fun e=>by have:=HLT.out; have:=HG.out; omega) (fun z e=>by have:=HLT.out; have:=HG.out; have:=HLO.out; omega));have K3:=ι (Rg.Kp.trans (M:=fun z=>z=tk) K.out hkk (fun z hz e=>by have:=HG.out; omega));clear hsw hkk e0 e1;go_wp2
   go_roundw
   case rel=>exact ⟨i+1,_,_,by go_num,by omega,PR2,GY2,TK3,K3⟩
   case measure=>simp [intOf]; omega
  ·have hiN:¬ (i:Int)+1<(n:Int):=by omega
   go_upto_region 3 with (fail);refine Rg.wl ?_;refine Rg.lm 10 (.int .i64 ((i:Nat):Int)) ?_;go_frame;refine Rg.lr 11 (exec_bin (R:=.int .i64 (((i+1):Nat):Int)) .add _ _ _ rfl rfl rfl (b_add _ (by omega) (by omega))) ?_;go_frame;refine Rg.lm 12 (.int .i64 ((n:Nat):Int)) ?_;go_frame;refine Rg.lr 13 (exec_bin (R:=.bool false) .lss _ _ _ rfl rfl rfl (b_lss _ Rg.dF)) ?_;go_frame;go_upto_region 7 with (fail);refine Rg.wl ?_;refine Rg.lm 37 (.slice (some ⟨g,0,none⟩) n cap) ?_;go_frame;refine Rg.la 4 (.slice (some ⟨g,0,none⟩) n cap) ?_;go_frame;go_wp2;go_ret;exact ⟨g,cap,y,_,rfl,HG.out,HCP.out.1,HCP.out.2,GY.out,PR.out,TK.out,K.out⟩
end Go.Proofs.YtdnmmibchbceeaaGreat

namespace Go.Proofs.YtdnmmibchbceeaaGreat
open Go.RowKit
open Go.Proofs
open Go.Proofs.Ob
open Go.Proofs.Cm (Gd Gr IsChain)
attribute [local irreducible] Go.Calls Go.wpList
theorem made_rowH (w:World) (n:Nat):RwAt (w.alloc (.cells (madeCells #[.int .i64 0] n) 3)) w.heap.size n (fun _=>0):=by
 have h:=World.rowIs_made w (.int .i64 0) n 3;exact ⟨by simp,fun i hi=>h.cell hi,fun i=>h.frozen i⟩
end Go.Proofs.YtdnmmibchbceeaaGreat

namespace Go.Proofs.YtdnmmibchbceeaaGreat
open Go.RowKit
open Go.Proofs
open Go.Proofs.Ob
open Go.Proofs.Cm (Gd Gr IsChain ap)
attribute [local irreducible] Go.Calls Go.wpList
theorem level_rows {w:World} {N:Nat} {H:List Nat→Prop} {O:List (List Nat)} {R:List (List (List Nat))} {ov rv:Value} (hc:IsChain N H O R) (h:ChEqR w ov rv (O.map Ma.ofN) (R.map (List.map Ma.ofN))) {i:Nat} (hi:i<N) :
  ∃ ob oo oc rb ro rc,ov=.slice (some ⟨ob,oo,none⟩) N oc∧rv=.slice (some ⟨rb,ro,none⟩) N rc∧(∃ ua uc,CL w ob (oo+i) (.slice ua (O.getD i []).length uc)∧Rg.Ints w (.slice ua (O.getD i []).length uc) (Ma.ofN (O.getD i []))) ∧
   (∃ va vc,CL w rb (ro+i) (.slice va (O.getD i []).length vc)∧Rg.Rows w (.slice va (O.getD i []).length vc) ((R.getD i []).map Ma.ofN)):=by
 have hlo:(O.map Ma.ofN).length=N:=by rw [List.length_map,hc.lenO]
 have hlr:(R.map (List.map Ma.ofN)).length=N:=by rw [List.length_map,hc.lenR]
 obtain ⟨oa,oc,rfl,-⟩:=h.1.shape;obtain ⟨ra,rc,rfl⟩:=h.2.shape;have h1:=h.1;have h2:=h.2;rw [hlo] at h1;rw [hlr] at h2;obtain ⟨ob,oo,ua,uc,e5,hob,hoc,hoi⟩:=rowsI_get h1 (i:=i) (by rw [hlo]; exact hi);subst e5;obtain ⟨rb,ro,e6,hrb,u,hcu,hu⟩:=h2.at' (k:=i) (by rw [hlr]; exact hi);subst e6
 have hox:(O.map Ma.ofN)[i]'(by rw [hlo]; exact hi)=Ma.ofN (O.getD i []):=by
  have hXO:i<O.length:=by rw [hc.lenO]; exact hi
  rw [List.getElem_map,getD_inf hXO]
 rw [hox] at hoc hoi;rw [Ma.len_ofN] at hoc hoi
 have hrx:(R.map (List.map Ma.ofN))[i]'(by rw [hlr]; exact hi)=(R.getD i []).map Ma.ofN:=by
  have hXR:i<R.length:=by rw [hc.lenR]; exact hi
  rw [List.getElem_map,getD_inf hXR]
 rw [hrx] at hu;obtain ⟨va,vc,rfl,-⟩:=hu.shape;rw [List.length_map,hc.len i hi] at hcu hu;rw [hlo,hlr];exact ⟨ob,oo,oc,rb,ro,rc,rfl,rfl,⟨ua,uc,CL.mk hoc hob,hoi⟩,⟨va,vc,CL.mk hcu hrb,hu⟩⟩
theorem exec_slice1I {o:Oper} {a:Act} {w:World} {v r:Value} (x:Operand) (ho:o.op=.slice 25 x (some (.const (.int .i64 1))) none none) (hx:a.eval x=v) (hr:(Instr.sliceAt 25 v (some (.int .i64 1)) none none).run Tryz.prog w=.ok r w) :
  (execOp a.eval o).run Tryz.prog w=.ok (.value r) w:=by
 unfold execOp;simp only [ho,hx,Sem.run_bind,Sem.run_pure,Option.map]
 first | (rw [hr]; rfl) | (erw [hr]; rfl) | simp [hr]

theorem ints_nil (w:World):Rg.Ints w (.slice none 0 0) []:=(show FP (fun _=>True) w (.slice none 0 0) [] from ⟨none,0,rfl,Nat.le_refl _,Nat.zero_le _,Nat.zero_le _,fun h=>absurd h (Nat.lt_irrefl 0)⟩).np
end Go.Proofs.YtdnmmibchbceeaaGreat

namespace Go.Proofs.YtdnmmibchbceeaaGreat
open Go.RowKit
open Go.Proofs
open Go.Proofs.Cm (Gd Gr IsChain)
structure NpI (w:World) (v:Value) (l:List Int):Prop where
 i:Rg.Ints w v l
theorem NpI.below {w w':World} {v:Value} {l:List Int} (h:NpI w v l) (hb:Below w.heap.size w w'):NpI w' v l:=⟨h.i.below hb⟩
theorem NpI.at {w:World} {lv:Value} {M:List Nat} {D:Nat} (h:NpI w lv (Ma.ofN M)) (hM:M.length=D) (hD:1≤D):∃ b o c,lv=.slice (some ⟨b,o,none⟩) D c∧∀ i,i<D→CL w b (o+i) (.int .i64 ((M.getD i 0:Nat):Int)):=by
 obtain ⟨a,c,rfl,hc,hm,_,hcell⟩:=Rg.NP.shape (show Rg.NP w lv M from h.i);obtain ⟨b,o,rfl,hb,hr⟩:=hcell (by omega);refine ⟨b,o,c,by rw [hM],fun i hi=>⟨?_,hb⟩⟩;rw [List.getD_eq_getElem?_getD,List.getElem?_eq_getElem (show i<M.length by omega),Option.getD_some];exact hr i (by omega)
theorem rows_get {w:World} {a:Option Addr} {n c:Nat} {T:List (List Int)} (h:Rg.Rows w (.slice a n c) T) {i:Nat} (hi:i<T.length):∃ b o ua uc,a=some ⟨b,o,none⟩∧b<w.heap.size∧w.cell? ⟨b,o+i,none⟩=some (.slice ua T[i].length uc)∧Rg.Ints w (.slice ua T[i].length uc) T[i]:=by
 obtain ⟨a',c',e,-,-,-,hx⟩:=h.shape;simp only [Value.slice.injEq] at e;obtain ⟨rfl,rfl,rfl⟩:=e;obtain ⟨b,o,e1,e2,e3⟩:=hx (by omega);obtain ⟨u,h1,h2⟩:=e3 i hi;obtain ⟨ua,uc,e4,-⟩:=Rg.Ints.shape h2;subst e4;exact ⟨b,o,ua,uc,e1,e2,h1,h2⟩
theorem ints_get {w:World} {a:Option Addr} {n c:Nat} {l:List Int} (h:Rg.Ints w (.slice a n c) l) {k:Nat} (hk:k<l.length):∃ b o,a=some ⟨b,o,none⟩∧b<w.heap.size∧w.cell? ⟨b,o+k,none⟩=some (.int .i64 l[k]):=by
 obtain ⟨a',c',e,-,-,-,hx⟩:=h.shape;simp only [Value.slice.injEq] at e;obtain ⟨rfl,rfl,rfl⟩:=e;obtain ⟨b,o,e1,e2,e3⟩:=hx (by omega);exact ⟨b,o,e1,e2,e3 k hk⟩
structure RsO (w:World) (v:Value) (T:List (List Int)):Prop where
 r:Rg.Rows w v T
theorem RsO.below {w w':World} {v:Value} {T:List (List Int)} (h:RsO w v T) (hb:Below w.heap.size w w'):RsO w' v T:=⟨Rg.Rows.below h.r hb⟩
theorem kp_below {B:Nat} {M:Nat→Prop} {W0 W X:World} (hb:Below B W0 W) (hB:B≤W.heap.size) (hk:Rg.Kp M W X) (hM:∀ k,M k→B≤k):Below B W0 X :=
 hb.trans ⟨hk.os,hk.tape,hk.output,hk.size,fun k h=>hk.block k (Nat.lt_of_lt_of_le h hB) fun e=>Nat.lt_irrefl _ (Nat.lt_of_lt_of_le h (hM k e))⟩
theorem gck_good {D:Nat} (h1:1≤D) (h2:D≤64):∀ {gs:List (List Nat)},(∀ s∈gs,Gd D s)→Ma.gck ((D:Nat):Int) (gs.map Ma.ofN)=0
 | [],_=>rfl
 | s :: gs,h=>by
  have g:=h s (List.mem_cons_self ..);have e1:Ma.pchk (Ma.ofN s)=0:=Ma.pchk_ok (by rw [Ma.len_ofN,g.2]; exact h1) (by rw [Ma.len_ofN,g.2]; exact h2) (Ma.okN_ofN g.1)
  have e2:((Ma.ofN s).length:Int)=((D:Nat):Int):=by rw [Ma.len_ofN,g.2]
  show (if Ma.pchk (Ma.ofN s)=0 then (if ((Ma.ofN s).length:Int)=((D:Nat):Int) then Ma.gck ((D:Nat):Int) (gs.map Ma.ofN) else 10) else Ma.pchk (Ma.ofN s))=0;rw [if_pos e1,if_pos e2];exact gck_good h1 h2 (fun x hx=>h x (List.mem_cons_of_mem _ hx))
end Go.Proofs.YtdnmmibchbceeaaGreat

namespace Go.Proofs.YtdnmmibchbceeaaGreat
open Go.RowKit
open Go.Proofs
open Go.Proofs.Ob
open Go.Proofs.Cm (Gd)
attribute [local irreducible] Go.Calls Go.wpList
theorem Zlcl2 (args:Array Value) (w:World):(callFunc 36 args).run Tryz.prog w=.ok (.enter 36 args) w:=by kernel_rfl
theorem Zlcl3 (args:Array Value) (w:World):(callFunc 71 args).run Tryz.prog w=.ok (.enter 71 args) w:=by kernel_rfl
theorem Zlcl4 (args:Array Value) (w:World):(callFunc 34 args).run Tryz.prog w=.ok (.enter 34 args) w:=by kernel_rfl
theorem exec_buildTk {o:Oper} {a:Act} {w:World} {la:Option Addr} {n c:Nat} (x:Operand) (ho:o.op=.build 64 #[(0,x)]) (hx:a.eval x=.slice la n c) :
  (execOp a.eval o).run Tryz.prog w=.ok (.value (.agg #[.slice la n c,.int .i64 0])) w:=by
 unfold execOp;simp only [ho,Sem.run_bind,Sem.run_pure];simp only [List.map_toArray,List.map_cons,List.map_nil,hx]
 have h:(Instr.build 64 #[(0,.slice la n c)]).run Tryz.prog w=.ok (.agg #[.slice la n c,.int .i64 0]) w:=by kernel_rfl
 first | (rw [h]; rfl) | (erw [h]; rfl)
theorem Tk.new {w:World} {la:Option Addr} {n c:Nat} {l:List Int} {W:World} (hb:Below w.heap.size w W) (hl:Rg.IntsB maxLen w (.slice la n c) l) (t:TypeId):Tk w (W.alloc (.cells #[.slice la n c,.int .i64 0] t)) W.heap.size 0 (.slice la n c) l :=
 ⟨by rw [Rg.cellNew]; rfl,by rw [Rg.cellNew]; rfl,frozenNewN _ _ _ 0 _,by simp,hb.size,hb.alloc hb.size _,hl⟩
structure CW1 (w:World) (b:Nat) (v:Value):Prop where
 c:w.cell? ⟨b,1,none⟩=some v
 f:w.frozen? ⟨b,1,none⟩=false
 lt:b<w.heap.size
theorem Tk.up {w0 w w':World} {tk k:Nat} {lv:Value} {l:List Int} (h:Tk w0 w tk k lv l) (hb:Below w.heap.size w w'):Tk w0 w' tk k lv l:=h.below hb
theorem PRow.up {w w':World} {g n:Nat} {y:List Nat} (h:PRow w g n y) (hb:Below w.heap.size w w'):PRow w' g n y:=h.below hb
theorem RwAt.up {w w':World} {g n:Nat} {f:Nat→Int} (h:RwAt w g n f) (hb:Below w.heap.size w w'):RwAt w' g n f:=h.below hb
theorem _root_.Go.Proofs.Rg.Kp.up {M:Nat→Prop} {w w' w'':World} (h:Rg.Kp M w w') (hb:Below w'.heap.size w' w''):Rg.Kp M w w'':=kpAcc h hb
structure FZ (w:World) (b o:Nat):Prop where
 f:w.frozen? ⟨b,o,none⟩=false
 lt:b<w.heap.size
theorem FZ.below {w w':World} {b o:Nat} (h:FZ w b o) (hb:Below w.heap.size w w'):FZ w' b o:=⟨(hb.frozen (p:=⟨b,o,none⟩) h.lt).trans h.f,Nat.lt_of_lt_of_le h.lt hb.size⟩
theorem FZ.kp {M:Nat→Prop} {w w':World} {b o:Nat} (h:FZ w b o) (hk:Rg.Kp M w w') (hM:¬ M b):FZ w' b o:=⟨(World.frozen?_of_block (a:=⟨b,o,none⟩) (hk.block b h.lt hM)).trans h.f,Nat.lt_of_lt_of_le h.lt hk.size⟩
theorem gset (W:World) (x y:Value) (t:TypeId):CL (((W.alloc (.cells #[.int .i64 0,.slice none 0 0] t)).setCell ⟨W.heap.size,0,none⟩ x).setCell ⟨W.heap.size,1,none⟩ y) W.heap.size 0 x∧(CW1 (((W.alloc (.cells #[.int .i64 0,.slice none 0 0] t)).setCell ⟨W.heap.size,0,none⟩ x).setCell ⟨W.heap.size,1,none⟩ y) W.heap.size y)∧Below W.heap.size W (((W.alloc (.cells #[.int .i64 0,.slice none 0 0] t)).setCell ⟨W.heap.size,0,none⟩ x).setCell ⟨W.heap.size,1,none⟩ y):=by
 have c0:(W.alloc (.cells #[.int .i64 0,.slice none 0 0] t)).cell? ⟨W.heap.size,0,none⟩=some (.int .i64 0):=by rw [Rg.cellNew]; rfl
 have c1:(W.alloc (.cells #[.int .i64 0,.slice none 0 0] t)).cell? ⟨W.heap.size,1,none⟩=some (.slice none 0 0):=by rw [Rg.cellNew]; rfl
 have f1:(W.alloc (.cells #[.int .i64 0,.slice none 0 0] t)).frozen? ⟨W.heap.size,1,none⟩=false:=frozenNewN _ _ _ 0 _
 have c1':((W.alloc (.cells #[.int .i64 0,.slice none 0 0] t)).setCell ⟨W.heap.size,0,none⟩ x).cell? ⟨W.heap.size,1,none⟩=some (.slice none 0 0):=by
  rw [World.cell?_setCell_other (h:=by intro e; injection e with e1 e2; omega) ..]; exact c1
 refine ⟨⟨?_,by simp⟩,⟨World.cell?_setCell_same (h:=c1') ..,by rw [World.frozen?_setCell,World.frozen?_setCell]; exact f1,by simp⟩,(((Below.refl _ _).alloc (Nat.le_refl _) _).setCell (p:=⟨W.heap.size,0,none⟩) (Nat.le_refl _) x).setCell (p:=⟨W.heap.size,1,none⟩) (Nat.le_refl _) y⟩
 rw [World.cell?_setCell_other (h:=by intro e; injection e with e1 e2; omega) ..]
 exact World.cell?_setCell_same (h:=c0) ..
theorem gfin {w W:World} {rb:Nat} {u0 u1 x y:Value} (h0:W.cell? ⟨rb,0,none⟩=some u0) (h1:W.cell? ⟨rb,1,none⟩=some u1) (hlt:rb<W.heap.size) (hb:Below w.heap.size w W) (hlo:w.heap.size≤rb:=by omega) :
  ((W.setCell ⟨rb,0,none⟩ x).setCell ⟨rb,1,none⟩ y).cell? ⟨rb,0,none⟩=some x∧((W.setCell ⟨rb,0,none⟩ x).setCell ⟨rb,1,none⟩ y).cell? ⟨rb,1,none⟩=some y∧Below w.heap.size w ((W.setCell ⟨rb,0,none⟩ x).setCell ⟨rb,1,none⟩ y)∧Rg.Kp (fun z=>z=rb) W ((W.setCell ⟨rb,0,none⟩ x).setCell ⟨rb,1,none⟩ y):=by
 have c1:(W.setCell ⟨rb,0,none⟩ x).cell? ⟨rb,1,none⟩=some u1:=by
  rw [World.cell?_setCell_other (h:=by intro e; injection e with e1 e2; omega) ..]; exact h1
 refine ⟨?_,World.cell?_setCell_same (h:=c1) ..,(hb.setCell (p:=⟨rb,0,none⟩) hlo x).setCell (p:=⟨rb,1,none⟩) hlo y,Rg.Kp.trans (M:=fun z=>z=rb) (Rg.Kp.of_setCell rfl) (Rg.Kp.of_setCell (M:=fun z=>z=rb) rfl) (fun _ _ e=>e)⟩
 rw [World.cell?_setCell_other (h:=by intro e; injection e with e1 e2; omega) ..]
 exact World.cell?_setCell_same (h:=h0) ..
theorem PRow.fp {w:World} {g n cap:Nat} {y:List Nat} (h:PRow w g n y) (gy:Gd n y) (hc:n≤cap) (hm:cap≤maxLen) (h1:1≤n) (hn:n≤1000) {F:Nat→Prop} (hF:F g):FP F w (.slice (some ⟨g,0,none⟩) n cap) y :=
 Rg.FVals.of (h.np gy hc hm hn) (fun k e=>by simp [Value.ownBlock] at e; exact e▸hF)
def GM (tk gb rb z:Nat):Prop:=z=tk∨z=gb∨z=rb
structure RowH (B:Nat) (F M:Nat→Prop) (W:World) (v:Value) (l:List (List Nat)):Prop where
 size:B≤W.heap.size
 own:∃ us,W.ownsRow B 30 1 v l.length us∧Rg.FElts F W us (l.map Ma.ofN)
 off:∀ k,v.ownBlock=some k→¬ F k∧¬ M k
theorem RowH.lt {B:Nat} {F M:Nat→Prop} {W:World} {v:Value} {l:List (List Nat)} (h:RowH B F M W v l):∀ k,v.ownBlock=some k→B≤k∧k<W.heap.size:=fun k e=>by
 obtain ⟨us,h1,h2⟩:=h.own;exact h1.lt k e
theorem RowH.shape {B:Nat} {F M:Nat→Prop} {W:World} {v:Value} {l:List (List Nat)} (h:RowH B F M W v l):∃ a c,v=.slice a l.length c:=by
 obtain ⟨us,h1,h2⟩:=h.own;exact Rg.row_shape h1
theorem RowH.nil (B:Nat) (F M:Nat→Prop) (W:World) (hB:B≤W.heap.size):RowH B F M W (.slice none 0 0) [] :=
 ⟨hB,⟨[],World.ownsRow_nil _ _ _ _,Rg.FElts.nil _ _⟩,fun k e=>by simp [Value.ownBlock] at e⟩
theorem RowH.rows {B:Nat} {F M:Nat→Prop} {W:World} {v:Value} {l:List (List Nat)} (h:RowH B F M W v l) (hl:l.length≤1000000000):Rg.Rows W v (l.map Ma.ofN):=by
 obtain ⟨us,h1,h2⟩:=h.own;exact Rg.Rows.of_row h1 hl h2.1 (fun i a b=>(h2.2 i a b).ints)
theorem RowH.kp {B:Nat} {F M N:Nat→Prop} {W W':World} {v:Value} {l:List (List Nat)} (h:RowH B F M W v l) (hk:Rg.Kp N W W') (hF:∀ k,F k→¬ N k) (hN:∀ k,v.ownBlock=some k→¬ N k):RowH B F M W' v l:=by
 obtain ⟨us,h1,h2⟩:=h.own;exact ⟨Nat.le_trans h.size hk.size,⟨us,rowKp h1 hk (fun k hn e=>hN k e hn),h2.kp hk hF⟩,h.off⟩
theorem RowH.upk {B:Nat} {F M N:Nat→Prop} {W W':World} {v:Value} {l:List (List Nat)} (h:RowH B F M W v l) (hk:Rg.Kp N W W') (hF:∀ k,F k→¬ N k) (hN:∀ k,N k→M k):RowH B (Fup F W W') M W' v l:=by
 obtain ⟨us,h1,h2⟩:=h.own;refine ⟨Nat.le_trans h.size hk.size,⟨us,rowKp h1 hk (fun k hn e=>(h.off k e).2 (hN k hn)),(h2.kp hk hF).mono fun k=>.inl⟩,fun k e=>⟨fun g=>?_,(h.off k e).2⟩⟩;have:=(h.lt k e).2
 rcases g with g | g
 ·exact (h.off k e).1 g
 ·omega
theorem RowH.push {B:Nat} {F M:Nat→Prop} {W:World} {v:Value} {l:List (List Nat)} (h:RowH B F M W v l) {u:Value} {x:List Nat} (hu:FP F W u x) (hs:∃ a m c,u=.slice a m c) (hF:∀ k,F k→k<W.heap.size) (hM:∀ k,M k→k<W.heap.size) (hn:l.length<1000000) (ty:TypeId) :
  ∃ a c X,(Builtin.append_ #[22,22] ty #[v,.slice (some ⟨W.heap.size,0,none⟩) 1 1]).run Tryz.prog (W.alloc (.cells #[u] 30))=.ok (.slice a (l.length+1) c) X∧RowH B F M X (.slice a (l.length+1) c) (l++[x])∧Rg.Kp (fun k=>v.ownBlock=some k) W X:=by
 obtain ⟨us,h1,h2⟩:=h.own;obtain ⟨a0,m0,c0,rfl⟩:=hs;have hb:Below W.heap.size W (W.alloc (.cells #[.slice a0 m0 c0] 30)):=(Below.refl _ _).alloc (Nat.le_refl _) _;obtain ⟨v',X,r1,r2,r3,r4,a,c,rfl⟩:=app_run (P:=Tryz.prog) slPerms ty (Rg.row_below h1 hb) (Nat.le_trans h.size hb.size) W.heap.size 1 (u:=.slice a0 m0 c0) (by rw [Rg.cellNew]; rfl) rfl hn;have hk:Rg.Kp (fun k=>v.ownBlock=some k) W X:=Rg.Kp.trans (M:=fun k=>v.ownBlock=some k) ((Rg.Kp.of_below hb).weak fun _=>False.elim) (Rg.Kp.of_grown r3 fun _ e=>e) (fun _ _ e=>e);have hg:∀ k,F k→¬ v.ownBlock=some k:=fun k g e=>(h.off k e).1 g;refine ⟨a,c,X,r1,⟨Nat.le_trans h.size hk.size,⟨us++[.slice a0 m0 c0],by rw [List.length_append]; exact r2,by rw [List.map_append]; exact FElts.snoc (h2.kp hk hg) (Rg.FI.kp hu hk hg)⟩,fun k e=>?_⟩,hk⟩
 rcases r4 with r4 | r4
 ·exact h.off k (by rw [← r4]; exact e)
 ·rw [r4] at e
  injection e with e
  have e2:(W.alloc (.cells #[.slice a0 m0 c0] 30)).heap.size=W.heap.size+1:=by simp
  exact ⟨fun g=>by have:=hF _ g; omega,fun g=>by have:=hM _ g; omega⟩
structure GOf (w W:World) (tk gb rb k d:Nat) (lv:Value) (l:List Int) (F:Nat→Prop) (gv:Value) (gs:List (List Nat)):Prop where
 tkr:Tk w W tk k lv l
 g0:CL W gb 0 (.int .i64 ((d:Nat):Int))
 g1:W.cell? ⟨gb,1,none⟩=some gv
 gf:W.frozen? ⟨gb,1,none⟩=false
 r0:∃ u,W.cell? ⟨rb,0,none⟩=some u
 r1:∃ u,W.cell? ⟨rb,1,none⟩=some u
 rf0:W.frozen? ⟨rb,0,none⟩=false
 rf1:W.frozen? ⟨rb,1,none⟩=false
 rlt:rb<W.heap.size
 rw:RowH w.heap.size F (GM tk gb rb) W gv gs
 nF:∀ z,GM tk gb rb z→¬ F z
 Flt:∀ z,F z→z<W.heap.size
 n1:gb≠tk
 n2:rb≠tk
 n3:rb≠gb
 lo:∀ z,GM tk gb rb z→w.heap.size≤z
theorem GOf.kt {w W W':World} {tk gb rb k k' d:Nat} {lv:Value} {l:List Int} {F:Nat→Prop} {gv:Value} {gs:List (List Nat)} (h:GOf w W tk gb rb k d lv l F gv gs) (hk:Rg.Kp (fun z=>z=tk) W W') (ht:Tk w W' tk k' lv l):GOf w W' tk gb rb k' d lv l (Fup F W W') gv gs:=by
 have hg:=World.cell?_of_block (a:=⟨gb,1,none⟩) (hk.block gb h.g0.lt h.n1);have hgf:=World.frozen?_of_block (a:=⟨gb,1,none⟩) (hk.block gb h.g0.lt h.n1);have hb:=hk.block rb h.rlt h.n2;refine ⟨ht,h.g0.kp hk h.n1,hg.trans h.g1,hgf.trans h.gf,?_,?_,(World.frozen?_of_block (a:=⟨rb,0,none⟩) hb).trans h.rf0,(World.frozen?_of_block (a:=⟨rb,1,none⟩) hb).trans h.rf1,Nat.lt_of_lt_of_le h.rlt hk.size,h.rw.upk hk (fun z hz e=>h.nF z (.inl e) hz) (fun z e=>.inl e),fun z hz hf=>?_,fun z hf=>?_,h.n1,h.n2,h.n3,h.lo⟩
 ·obtain ⟨u,hu⟩:=h.r0; exact ⟨u,(World.cell?_of_block (a:=⟨rb,0,none⟩) hb).trans hu⟩
 ·obtain ⟨u,hu⟩:=h.r1; exact ⟨u,(World.cell?_of_block (a:=⟨rb,1,none⟩) hb).trans hu⟩
 ·rcases hf with hf | hf
  ·exact h.nF z hz hf
  ·rcases hz with e | e | e
   ·have:=h.tkr.lt; omega
   ·have:=h.g0.lt; omega
   ·have:=h.rlt; omega
 ·rcases hf with hf | hf
  ·exact Nat.lt_of_lt_of_le (h.Flt z hf) hk.size
  ·exact hf.2
theorem GOf.push {w W:World} {tk gb rb k d:Nat} {lv:Value} {l:List Int} {F:Nat→Prop} {gv:Value} {gs:List (List Nat)} (h:GOf w W tk gb rb k d lv l F gv gs) {u:Value} {y:List Nat} (hu:FP F W u y) (hs:∃ a m c,u=.slice a m c) (hn:gs.length<1000000) (ty:TypeId) :
  ∃ a c X,(Builtin.append_ #[22,22] ty #[gv,.slice (some ⟨W.heap.size,0,none⟩) 1 1]).run Tryz.prog (W.alloc (.cells #[u] 30))=.ok (.slice a (gs.length+1) c) X∧X.cell? ⟨gb,1,none⟩=some gv∧X.frozen? ⟨gb,1,none⟩=false ∧
   GOf w (X.setCell ⟨gb,1,none⟩ (.slice a (gs.length+1) c)) tk gb rb k d lv l F (.slice a (gs.length+1) c) (gs++[y]):=by
 have hM:∀ z,GM tk gb rb z→z<W.heap.size:=fun z e=>by
  rcases e with e | e | e
  ·have:=h.tkr.lt; omega
  ·have:=h.g0.lt; omega
  ·have:=h.rlt; omega
 obtain ⟨a,c,X,r1,r2,r3⟩:=h.rw.push hu hs h.Flt hM hn ty;have hO:∀ z,GM tk gb rb z→¬ gv.ownBlock=some z:=fun z hz e=>(h.rw.off z e).2 hz;have hFo:∀ z,F z→¬ gv.ownBlock=some z:=fun z hz e=>(h.rw.off z e).1 hz;have hkg:=r3.block gb h.g0.lt (hO gb (.inr (.inl rfl)));have hkr:=r3.block rb h.rlt (hO rb (.inr (.inr rfl)));have hc1:=(World.cell?_of_block (a:=⟨gb,1,none⟩) hkg).trans h.g1;have hf1:=(World.frozen?_of_block (a:=⟨gb,1,none⟩) hkg).trans h.gf;have hk2:Rg.Kp (fun z=>z=gb) X (X.setCell ⟨gb,1,none⟩ (.slice a (gs.length+1) c)):=Rg.Kp.of_setCell rfl;have hFg:∀ z,F z→¬ z=gb:=fun z hz e=>h.nF z (.inr (.inl e)) hz;have hkr2:=hk2.block rb (Nat.lt_of_lt_of_le h.rlt r3.size) h.n3;refine ⟨a,c,X,r1,hc1,hf1,⟨(h.tkr.kp r3 (hO tk (.inl rfl)) (fun z e=>(h.rw.lt z e).1)).kp hk2 (fun e=>h.n1 e.symm) (fun z e=>e▸h.lo gb (.inr (.inl rfl))),?_,World.cell?_setCell_same (h:=hc1) ..,by rw [World.frozen?_setCell]; exact hf1,?_,?_,?_,?_,Nat.lt_of_lt_of_le h.rlt (Nat.le_trans r3.size hk2.size),r2.kp hk2 hFg (fun k e e2=>?_),h.nF,fun z hz=>Nat.lt_of_lt_of_le (h.Flt z hz) (Nat.le_trans r3.size hk2.size),h.n1,h.n2,h.n3,h.lo⟩⟩
 ·refine ⟨?_,Nat.lt_of_lt_of_le h.g0.lt (Nat.le_trans r3.size hk2.size)⟩
  rw [World.cell?_setCell_other (h:=by intro e; injection e with e1 e2; omega) ..]
  exact (World.cell?_of_block (a:=⟨gb,0,none⟩) hkg).trans h.g0.cell
 ·obtain ⟨u',hu'⟩:=h.r0
  exact ⟨u',(World.cell?_of_block (a:=⟨rb,0,none⟩) hkr2).trans ((World.cell?_of_block (a:=⟨rb,0,none⟩) hkr).trans hu')⟩
 ·obtain ⟨u',hu'⟩:=h.r1
  exact ⟨u',(World.cell?_of_block (a:=⟨rb,1,none⟩) hkr2).trans ((World.cell?_of_block (a:=⟨rb,1,none⟩) hkr).trans hu')⟩
 ·exact (World.frozen?_of_block (a:=⟨rb,0,none⟩) hkr2).trans ((World.frozen?_of_block (a:=⟨rb,0,none⟩) hkr).trans h.rf0)
 ·exact (World.frozen?_of_block (a:=⟨rb,1,none⟩) hkr2).trans ((World.frozen?_of_block (a:=⟨rb,1,none⟩) hkr).trans h.rf1)
 ·subst e2
  exact (r2.off k e).2 (.inr (.inl rfl))
def GoPost (most:Nat) (w:World) (e:Ending) (w':World):Prop:=∃ (d:Nat) (gv:Value) (gs:List (List Nat)),e=.returned (.agg #[.int .i64 ((d:Nat):Int),gv])∧1≤d∧d≤most∧gs.length≤3∧(∀ s∈gs,Gd d s)∧Rg.Rows w' gv (gs.map Ma.ofN)∧Below w.heap.size w w'
theorem GOf.start {w W:World} {tk gb rb k d:Nat} {lv:Value} {l:List Int} (ht:Tk w W tk k lv l) (h0:CL W gb 0 (.int .i64 ((d:Nat):Int))) (h1:CL W gb 1 (.slice none 0 0)) (hf:W.frozen? ⟨gb,1,none⟩=false) (r0:∃ u,W.cell? ⟨rb,0,none⟩=some u) (r1:∃ u,W.cell? ⟨rb,1,none⟩=some u) (rf0:W.frozen? ⟨rb,0,none⟩=false) (rf1:W.frozen? ⟨rb,1,none⟩=false) (n1:gb≠tk) (n2:rb≠tk) (n3:rb≠gb) (rlt:rb<W.heap.size) (lo1:w.heap.size≤gb) (lo2:w.heap.size≤rb):GOf w W tk gb rb k d lv l (fun _=>False) (.slice none 0 0) [] :=
 ⟨ht,h0,h1.cell,hf,r0,r1,rf0,rf1,rlt,RowH.nil _ _ _ _ ht.bel.size,fun _ _=>id,fun _=>False.elim,n1,n2,n3,fun z e=>by rcases e with rfl | rfl | rfl; exact ht.lo; exact lo1; exact lo2⟩
theorem GroupOf_any (lv:Value) (l:List Int) (most:Nat) (w:World) (hl:Rg.IntsB maxLen w lv l) (hm1:1≤most) (hm2:most≤64) :
  Calls Tryz.prog 29 #[lv,.int .i64 ((most:Nat):Int)] w (GoPost most w):=by
 obtain ⟨la,lc,rfl,-⟩:=hl.shape;have HL:=ι hl;have K:=ι (Below.refl w.heap.size w);clear hl;have hs0:w.heap.size=w.heap.size+0:=rfl
 go_enter Tryz.func29,Tryz.ntmps29
 go_upto_region 0 with (fail);refine Rg.wl ?_;have hg0:=box2 w (.int .i64 0) (.slice none 0 0);have hgf0:=frozenNewN w #[.int .i64 0,.slice none 0 0] 24 0 0;have hgf1:=frozenNewN w #[.int .i64 0,.slice none 0 0] 24 0 1;refine Rg.lr 4 (exec_allocG rfl) ?_;go_frame;have hb:=(Below.refl w.heap.size w).alloc (Nat.le_refl _) (.cells #[.int .i64 0,.slice none 0 0] 24);generalize w.alloc (.cells #[.int .i64 0,.slice none 0 0] 24)=w1 at *;replace K:=ι (Rg.acc K.out hb);clear hb;have R0:=ι hg0.1;have R1:=ι hg0.2;have F0:=ι (show w1.frozen? ⟨w.heap.size,0,none⟩=false from hgf0);have F1:=ι (show w1.frozen? ⟨w.heap.size,1,none⟩=false from hgf1);clear hg0 hgf0 hgf1;have FR0:=ι (show FZ w1 w.heap.size 0 from ⟨F0.out,R0.out.lt⟩);have FR1:=ι (show FZ w1 w.heap.size 1 from ⟨F1.out,R1.out.lt⟩);clear F0 F1;go_upto_region 1 with (fail);refine Rg.wl ?_;refine Rg.lm 10 (.slice la l.length lc) ?_;go_frame
 refine Rg.lr 11 (exec_buildTk _ rfl rfl) ?_;go_frame;have htk:=Tk.new K.out HL.out 64;have HRT:=ι R0.out.lt;refine Rg.lr 12 (Rg.exec_box _ _ rfl rfl) ?_;go_frame;have hb:=(Below.refl w1.heap.size w1).alloc (Nat.le_refl _) (.cells #[.slice la l.length lc,.int .i64 0] 64);generalize w1.alloc (.cells #[.slice la l.length lc,.int .i64 0] 64)=w2 at *;replace R0:=ι (R0.out.below hb);replace R1:=ι (R1.out.below hb);replace FR0:=ι (FR0.out.below hb);replace FR1:=ι (FR1.out.below hb);replace K:=ι (Rg.acc K.out hb);clear hb;have TK:=ι htk;refine Rg.la 5 (.pointer (some ⟨w1.heap.size,0,none⟩)) ?_;go_frame;clear htk;have HLO:=ι R0.out.lt;have HT0:=ι TK.out.lt;have HTL:=ι TK.out.lo;have HTR:=ι (show w.heap.size<w1.heap.size from HRT.out);go_upto_region 2 with (fail);refine Rg.wl ?_;refine Rg.lm 13 (.pointer (some ⟨w1.heap.size,0,none⟩)) ?_;go_frame;refine Rg.lm 14 (.int .i64 ((most:Nat):Int)) ?_;go_frame
 refine Rg.lk 15 (exec_fn 70 _ _ _ rfl rfl rfl (Zkcl1 _ _)) ?_;refine (Take_any TK.out ((most:Nat):Int) (by omega)).mono ?_;rintro e1 w3 ⟨r0,k0,rfl,hra,hrb,htk,hkp⟩;have hr0:=R0.out.kp hkp (fun e=>by have:=HTR.out; omega);have hr1:=R1.out.kp hkp (fun e=>by have:=HTR.out; omega);have hf0:=FR0.out.kp hkp (fun e=>by have:=HTR.out; omega);have hf1:=FR1.out.kp hkp (fun e=>by have:=HTR.out; omega)
 have hr0m:r0<most:=by have:=hra (by omega); omega
 clear hra hrb;refine ⟨_,rfl,?_⟩;go_frame;clear TK;replace R0:=ι hr0;replace R1:=ι hr1;replace FR0:=ι hf0;replace FR1:=ι hf1;replace K:=ι (show Below w.heap.size w _ from Rg.Kp.below K.out hkp (fun z e=>by have:=HTL.out; omega));have TK:=ι htk;clear hkp hr0 hr1 hf0 hf1;refine Rg.lr 16 (exec_bin (R:=.int .i64 (((1+r0):Nat):Int)) .add _ _ _ rfl rfl rfl (b_add _ (by omega) (by omega))) ?_;go_frame;refine Rg.lr 17 (exec_buildG1 _ rfl rfl) ?_;go_frame;have hnb:=box2 w3 (.int .i64 0) (.slice none 0 0);have hnf0:=frozenNewN w3 #[.int .i64 0,.slice none 0 0] 24 0 0;have hnf1:=frozenNewN w3 #[.int .i64 0,.slice none 0 0] 24 0 1;refine Rg.lr 6 (exec_allocG rfl) ?_;go_frame;refine Rg.list_skip none rfl rfl (Rg.exec_store _ _ _ rfl _ rfl _ rfl (run_storeG _ _ _ _ hnb.1.cell hnb.2.cell hnf0 hnf1)) ?_;go_frame;clear htk;have HD:1≤1+r0∧1+r0≤most:=⟨by omega,by omega⟩
 obtain ⟨d,hd⟩:∃ d,1+r0=d:=⟨_,rfl⟩;rw [hd] at HD ⊢;obtain ⟨gq1,gq2,gq3⟩:=gset w3 (.int .i64 ((d:Nat):Int)) (.slice none 0 0) 24;have HG1:=ι (show w3.heap.size≠w1.heap.size∧w.heap.size≠w3.heap.size from ⟨fun e=>by have:=TK.out.lt; omega,fun e=>by have:=R0.out.lt; omega⟩);have HSW:=ι K.out.size;replace R0:=ι (R0.out.below gq3);replace R1:=ι (R1.out.below gq3);replace FR0:=ι (FR0.out.below gq3);replace FR1:=ι (FR1.out.below gq3);replace TK:=ι (TK.out.below gq3);generalize ((w3.alloc (.cells #[.int .i64 0,.slice none 0 0] 24)).setCell ⟨w3.heap.size,0,none⟩ (.int .i64 ((d:Nat):Int))).setCell ⟨w3.heap.size,1,none⟩ (.slice none 0 0)=w30 at *;have GO:=ι (show GOf w w30 w1.heap.size w3.heap.size w.heap.size k0 d (.slice la l.length lc) l (fun _=>False) (.slice none 0 0) [] from GOf.start TK.out gq1 ⟨gq2.c,gq2.lt⟩ gq2.f ⟨_,R0.out.cell⟩ ⟨_,R1.out.cell⟩ FR0.out.f FR1.out.f HG1.out.1 (fun e=>by have:=HTR.out; omega) HG1.out.2 R0.out.lt HSW.out (Nat.le_refl _))
 clear gq1 gq2 gq3 hnb hnf0 hnf1 R0 R1 FR0 FR1 TK K hd hr0m;go_upto_region 3 with (fail);refine Rg.wl ?_;refine Rg.lm 18 (.pointer (some ⟨w1.heap.size,0,none⟩)) ?_;go_frame;refine Rg.lk 19 (exec_fn 70 _ _ _ rfl rfl rfl (Zkcl1 _ _)) ?_;refine (Take_any GO.out.tkr 4 (by omega)).mono ?_;rintro e1 w31 ⟨r3,k3,rfl,hra,hrb,htk,hkp⟩;have hgo:=GO.out.kt hkp htk
 have hr4:r3≤3:=by have:=hra (by omega); omega
 clear hra hrb htk;refine ⟨_,rfl,?_⟩;go_frame;clear hkp;refine Rg.la 7 (.int .i64 ((r3:Nat):Int)) ?_;go_frame;replace GO:=ι hgo;have HR3:=ι hr4;have HDD:=ι HD;clear hgo hr4 HD;go_wp2
 go_loopw [7] (fun kv wr=>∃ (k k':Nat) (F:Nat→Prop) (gv:Value) (gs:List (List Nat)),kv=.int .i64 k∧k≤3∧Hid (gs.length+k≤3)∧Hid (∀ s∈gs,Gd d s)∧Hid (GOf w wr w1.heap.size w3.heap.size w.heap.size k' d (.slice la l.length lc) l F gv gs)) (fun kv _=>(intOf kv).toNat)
 case atStart=>exact ⟨r3,k3,_,_,[],rfl,HR3.out,by rw [List.length_nil,Nat.zero_add]; exact HR3,ι (fun s hs=>by simp at hs),GO⟩
 case round =>
  clear GO HR3;obtain ⟨k,k',F,gv,gs,rfl,hk3,HGL,HGS,GO⟩:=hrel;obtain ⟨gva,gvc,rfl⟩:=GO.out.rw.shape;have hd1:1≤d:=HDD.out.1
  have hd2:d≤64:=by have:=HDD.out.2; omega
  by_cases hk0:0<k
  case neg =>
   obtain rfl:k=0:=by omega
   go_upto_region 4 with (fail);refine Rg.wl ?_;refine Rg.lm 20 (.int .i64 ((0:Nat):Int)) ?_;go_frame;refine Rg.lr 21 (exec_bin (R:=.bool false) .gtr _ _ _ rfl rfl rfl (b_gtr _ Rg.dF)) ?_;go_frame;obtain ⟨u0,hu0⟩:=GO.out.r0;obtain ⟨u1,hu1⟩:=GO.out.r1;go_upto_region 15 with (fail);refine Rg.wl ?_;refine Rg.lr 79 (Rg.exec_load (v:=.agg #[.int .i64 ((d:Nat):Int),.slice gva gs.length gvc]) _ _ rfl ⟨w3.heap.size,0,none⟩ rfl (run_loadG GO.out.g0.cell GO.out.g1)) ?_;go_frame;refine Rg.list_skip none rfl rfl (Rg.exec_store _ _ _ rfl _ rfl _ rfl (run_storeG _ _ _ _ hu0 hu1 GO.out.rf0 GO.out.rf1)) ?_;go_frame;have hfin:=gfin (x:=.int .i64 ((d:Nat):Int)) (y:=(.slice gva gs.length gvc)) hu0 hu1 GO.out.rlt GO.out.tkr.bel;have hrw:=(GO.out.rw.kp hfin.2.2.2 (fun z hz e=>GO.out.nF z (.inr (.inr e)) hz) (fun z e1 e2=>(GO.out.rw.off z e1).2 (.inr (.inr e2)))).rows (by have:=HGL.out; omega)
   generalize (wr.setCell ⟨w.heap.size,0,none⟩ (.int .i64 ((d:Nat):Int))).setCell ⟨w.heap.size,1,none⟩ (.slice gva gs.length gvc)=w199 at *;have HF1:=ι hfin;have HF2:=ι (show GoPost most w (.returned (.agg #[.int .i64 ((d:Nat):Int),(.slice gva gs.length gvc)])) w199 from ⟨d,_,gs,rfl,HDD.out.1,HDD.out.2,by have:=HGL.out; omega,HGS.out,hrw,hfin.2.2.1⟩);clear hfin hrw hu0 hu1;go_wp2;exact bodyPost_ret (results_cellG rfl _ rfl HF1.out.1 HF1.out.2.1) rfl HF2.out
  case pos =>
   have hkN:(0:Int)<(k:Int):=by omega
   obtain ⟨q,rfl⟩:∃ q,k=q+1:=⟨k - 1,by omega⟩;go_upto_region 4 with (fail);refine Rg.wl ?_;refine Rg.lm 20 (.int .i64 (((q+1):Nat):Int)) ?_;go_frame;refine Rg.lr 21 (exec_bin (R:=.bool true) .gtr _ _ _ rfl rfl rfl (b_gtr _ Rg.dT)) ?_;go_frame;have GC:=ι GO.out.g0;have TK:=ι GO.out.tkr;have KT:=ι (Rg.Kp.refl (fun z=>z=w1.heap.size) wr);have HNE:=ι GO.out.n1;have HTW:=ι GO.out.tkr.lt;have HTL2:=ι GO.out.tkr.lo;go_upto_region 6 with (fail);refine Rg.wl ?_;refine Rg.lr 24 (exec_fieldG0 _ rfl rfl) ?_;go_frame;refine Rg.lr 25 (Rg.exec_load (v:=.int .i64 ((d:Nat):Int)) _ _ rfl ⟨w3.heap.size,0,none⟩ rfl (run_loadInt GC.out.cell)) ?_;go_frame;refine Rg.lk 26 (exec_fn1 37 _ _ rfl rfl (Zkcl0 _ _)) ?_;refine (kitOne_row d wr hd1 (by omega)).mono ?_;rintro e1 w201 ⟨g,cap,rfl,hg,hc1,hc2,hro,hb⟩;have HG:=ι hg;have HCP:=ι (show d≤cap∧cap≤maxLen from ⟨hc1,hc2⟩)
   clear hg hc1 hc2;refine ⟨_,rfl,?_⟩;go_frame;replace GC:=ι (GC.out.below hb);replace TK:=ι (TK.out.below hb);replace KT:=ι (kpAcc KT.out hb);clear hb;have PR:=ι hro;refine Rg.la 8 (.slice (some ⟨g,0,none⟩) d cap) ?_;go_frame;clear hro;go_upto_region 7 with (fail);refine Rg.wl ?_;refine Rg.lm 27 (.pointer (some ⟨w1.heap.size,0,none⟩)) ?_;go_frame;refine Rg.lk 28 (exec_fn 70 _ _ _ rfl rfl rfl (Zkcl1 _ _)) ?_;refine (Take_any TK.out (3) (by omega)).mono ?_;rintro e1 w202 ⟨r5,k5,rfl,hra,hrb,htk,hkp⟩;have hgc2:=GC.out.kp hkp HNE.out;have hpr2:=RwAt.kp PR.out hkp (fun e=>by have:=HTW.out; have:=HG.out; omega);clear hra hrb;obtain ⟨b3,hb3⟩:∃ b,Hid (decide (((r5:Nat):Int)=0)=b):=⟨_,ι rfl⟩;refine ⟨_,rfl,?_⟩;go_frame;clear TK;replace GC:=ι hgc2;replace PR:=ι hpr2;replace KT:=ι (Rg.Kp.trans (M:=fun z=>z=w1.heap.size) KT.out hkp (fun _ _ e=>e))
   have TK:=ι htk;clear hkp hgc2 hpr2;refine Rg.lr 29 (exec_bin (R:=.bool b3) .eql _ _ _ rfl rfl rfl (b_eql _ hb3.out)) ?_;go_frame;clear htk
   cases b3 with
   | true =>
    go_upto_region 8 with (fail);refine Rg.wl ?_;refine Rg.lm 30 (.pointer (some ⟨w1.heap.size,0,none⟩)) ?_;go_frame;refine Rg.lr 31 (exec_fieldG0 _ rfl rfl) ?_;go_frame;refine Rg.lr 32 (Rg.exec_load (v:=.int .i64 ((d:Nat):Int)) _ _ rfl ⟨w3.heap.size,0,none⟩ rfl (run_loadInt GC.out.cell)) ?_;go_frame;refine Rg.lk 33 (exec_fn 36 _ _ _ rfl rfl rfl (Zlcl2 _ _)) ?_;refine (kitPerm_any TK.out hd1 hd2).mono ?_;rintro e1 w203 ⟨g2,cap2,y,k6,rfl,hg,hc1,hc2,hgy,hpr,htk,hkp⟩;have hgc2:=GC.out.kp hkp HNE.out;have HPR2:=ι hpr;have HGY0:=ι hgy;have HG2:=ι (Nat.le_trans KT.out.size hg);have HC2:=ι (show d≤cap2∧cap2≤maxLen from ⟨hc1,hc2⟩);clear hg hc1 hc2 hgy hpr;refine ⟨_,rfl,?_⟩;go_frame;clear TK;clear PR;replace GC:=ι hgc2;replace KT:=ι (Rg.Kp.trans (M:=fun z=>z=w1.heap.size) KT.out hkp (fun _ _ e=>e));have TK:=ι htk;clear hkp hgc2;refine Rg.la 8 (.slice (some ⟨g2,0,none⟩) d cap2) ?_;go_frame
    clear htk;have GO2:=ι (GO.out.kt KT.out TK.out);have HFP:=ι (show FP (Fup F wr w203) w203 (.slice (some ⟨g2,0,none⟩) d cap2) y from HPR2.out.fp HGY0.out HC2.out.1 HC2.out.2 hd1 (by omega) (.inr ⟨HG2.out,HPR2.out.1⟩));obtain ⟨a9,c9,X9,r1,r2,r3,r4⟩:=GO2.out.push HFP.out ⟨_,_,_,rfl⟩ (by have:=HGL.out; omega) 22;have HGY:=ι HGY0.out;clear GO GC TK KT;go_upto_region 14 with (fail);refine Rg.wl ?_;refine Rg.lr 73 (exec_fieldG _ rfl rfl) ?_;go_frame;refine Rg.lr 74 (Rg.exec_load (v:=.slice gva gs.length gvc) _ _ rfl ⟨w3.heap.size,1,none⟩ rfl (Rg.run_loadSl _ _ Tryz.underlying22 GO2.out.g1)) ?_;go_frame;refine Rg.lm 75 (.slice (some ⟨g2,0,none⟩) d cap2) ?_;go_frame;refine Rg.lr 76 (Rg.exec_buildSlice _ _ _ rfl (.slice (some ⟨g2,0,none⟩) d cap2) rfl (run_build1P w203 _ ⟨_,_,_,rfl⟩)) ?_;go_frame;refine Rg.lr 77 (Rg.exec_append _ _ _ rfl rfl rfl r1) ?_;go_frame;refine Rg.lr 78 (exec_fieldG _ rfl rfl) ?_;go_frame
    refine Rg.list_skip none rfl rfl (Rg.exec_store _ _ _ rfl _ rfl _ rfl (Rg.run_storeSl _ infoPermsV r2 r3)) ?_;go_frame;generalize X9.setCell ⟨w3.heap.size,1,none⟩ (.slice a9 (gs.length+1) c9)=w399 at *;have GO3:=ι r4;have HGL2:=ι (show (gs++[y]).length+q≤3 by rw [List.length_append]; have:=HGL.out; simp; omega)
    have HGS2:=ι (show ∀ s∈gs++[y],Gd d s from fun s hs=>by
     rcases List.mem_append.1 hs with hs | hs
     ·exact HGS.out s hs
     ·rw [List.mem_singleton] at hs; rw [hs]; exact HGY.out)
    clear r1 r2 r3 r4;go_wp2
    go_roundw
    case rel=>exact ⟨q,_,_,_,_,by go_num,by omega,HGL2,HGS2,GO3⟩
    case measure=>simp [intOf]; try omega
   | false =>
    go_upto_region 9 with (fail);refine Rg.wl ?_;refine Rg.lm 34 (.pointer (some ⟨w1.heap.size,0,none⟩)) ?_;go_frame;refine Rg.lr 35 (exec_fieldG0 _ rfl rfl) ?_;go_frame;refine Rg.lr 36 (Rg.exec_load (v:=.int .i64 ((d:Nat):Int)) _ _ rfl ⟨w3.heap.size,0,none⟩ rfl (run_loadInt GC.out.cell)) ?_;go_frame;refine Rg.lk 37 (exec_fn 70 _ _ _ rfl rfl rfl (Zkcl1 _ _)) ?_;refine (Take_any TK.out (((d:Nat):Int)) (by omega)).mono ?_;rintro e1 w203 ⟨fr,k6,rfl,hra,hrb,htk,hkp⟩;have hgc2:=GC.out.kp hkp HNE.out;have hpr2:=RwAt.kp PR.out hkp (fun e=>by have:=HTW.out; have:=HG.out; omega)
    have hfr:fr<d:=by have:=hra (by omega); omega
    clear hra hrb;refine ⟨_,rfl,?_⟩;go_frame;clear TK;replace GC:=ι hgc2;replace PR:=ι hpr2;replace KT:=ι (Rg.Kp.trans (M:=fun z=>z=w1.heap.size) KT.out hkp (fun _ _ e=>e));have TK:=ι htk;clear hkp hgc2 hpr2;refine Rg.la 9 (.int .i64 ((fr:Nat):Int)) ?_;go_frame;clear htk;go_upto_region 10 with (fail);refine Rg.wl ?_;refine Rg.lm 38 (.slice (some ⟨g,0,none⟩) d cap) ?_;go_frame;refine Rg.lm 39 (.int .i64 ((fr:Nat):Int)) ?_;go_frame;refine Rg.lm 40 (.int .i64 ((fr:Nat):Int)) ?_;go_frame;refine Rg.lr 41 (exec_bin (R:=.int .i64 (((fr+1):Nat):Int)) .add _ _ _ rfl rfl rfl (b_add _ (by omega) (by omega))) ?_;go_frame;refine Rg.lm 42 (.pointer (some ⟨w1.heap.size,0,none⟩)) ?_;go_frame;refine Rg.lr 43 (exec_fieldG0 _ rfl rfl) ?_;go_frame;refine Rg.lr 44 (Rg.exec_load (v:=.int .i64 ((d:Nat):Int)) _ _ rfl ⟨w3.heap.size,0,none⟩ rfl (run_loadInt GC.out.cell)) ?_;go_frame
    refine Rg.lm 45 (.int .i64 ((fr:Nat):Int)) ?_;go_frame;refine Rg.lr 46 (exec_bin (R:=.int .i64 (((d - fr):Nat):Int)) .sub _ _ _ rfl rfl rfl (b_sub _ (by omega) (by omega))) ?_;go_frame;refine Rg.lk 47 (exec_fn 70 _ _ _ rfl rfl rfl (Zkcl1 _ _)) ?_;refine (Take_any TK.out (((d - fr:Nat):Int)) (by omega)).mono ?_;rintro e1 w204 ⟨r7,k7,rfl,hra,hrb,htk,hkp⟩;have hgc2:=GC.out.kp hkp HNE.out;have hpr2:=RwAt.kp PR.out hkp (fun e=>by have:=HTW.out; have:=HG.out; omega)
    have hr7:r7<d - fr:=by have:=hra (by omega); omega
    clear hra hrb;refine ⟨_,rfl,?_⟩;go_frame;clear TK;replace GC:=ι hgc2;replace PR:=ι hpr2;replace KT:=ι (Rg.Kp.trans (M:=fun z=>z=w1.heap.size) KT.out hkp (fun _ _ e=>e));have TK:=ι htk;clear hkp hgc2 hpr2;refine Rg.lr 48 (exec_bin (R:=.int .i64 (((fr+1+r7):Nat):Int)) .add _ _ _ rfl rfl rfl (b_add _ (by omega) (by omega))) ?_;go_frame;clear htk;refine Rg.lk 49 (exec_fn3 71 _ _ _ _ rfl rfl rfl rfl (Zlcl3 _ _)) ?_;refine (cycle_any (a:=fr) (b:=fr+1+r7) PR.out (by omega) (by omega) (by omega)).mono ?_;rintro e1 w205 ⟨rfl,hpr,hkp⟩;have hgc2:=GC.out.kp hkp (fun e=>by have:=GO.out.g0.lt; have:=HG.out; omega);have htk2:=TK.out.kp hkp (fun e=>by have:=HTW.out; have:=HG.out; omega) (fun z e=>by have:=HTL2.out; have:=HTW.out; have:=HG.out; omega);have HGY0:=ι (show Gd d (cyN d fr (fr+1+r7)) from cyN_gd (by omega) (by omega));refine ⟨_,rfl,?_⟩
    go_frame;clear PR;replace GC:=ι hgc2;replace TK:=ι htk2;replace KT:=ι (Rg.Kp.trans (M:=fun z=>z=w1.heap.size) KT.out hkp (fun z hz e=>by have:=HG.out; omega));have PR:=ι hpr;clear hkp hgc2 htk2;refine Rg.la 8 (.slice (some ⟨g,0,none⟩) d cap) ?_;go_frame;clear hpr;go_upto_region 11 with (fail);refine Rg.wl ?_;refine Rg.lm 50 (.pointer (some ⟨w1.heap.size,0,none⟩)) ?_;go_frame;refine Rg.lr 51 (exec_fieldG0 _ rfl rfl) ?_;go_frame;refine Rg.lr 52 (Rg.exec_load (v:=.int .i64 ((d:Nat):Int)) _ _ rfl ⟨w3.heap.size,0,none⟩ rfl (run_loadInt GC.out.cell)) ?_;go_frame;refine Rg.lk 53 (exec_fn 70 _ _ _ rfl rfl rfl (Zkcl1 _ _)) ?_;refine (Take_any TK.out (((d:Nat):Int)) (by omega)).mono ?_;rintro e1 w206 ⟨f2,k8,rfl,hra,hrb,htk,hkp⟩;have hgc2:=GC.out.kp hkp HNE.out;have hpr2:=RwAt.kp PR.out hkp (fun e=>by have:=HTW.out; have:=HG.out; omega)
    have hf2:f2<d:=by have:=hra (by omega); omega
    clear hra hrb;refine ⟨_,rfl,?_⟩;go_frame;clear TK;replace GC:=ι hgc2;replace PR:=ι hpr2;replace KT:=ι (Rg.Kp.trans (M:=fun z=>z=w1.heap.size) KT.out hkp (fun _ _ e=>e));have TK:=ι htk;clear hkp hgc2 hpr2;refine Rg.la 9 (.int .i64 ((f2:Nat):Int)) ?_;go_frame;clear htk;go_upto_region 12 with (fail);refine Rg.wl ?_;refine Rg.lm 54 (.pointer (some ⟨w1.heap.size,0,none⟩)) ?_;go_frame;refine Rg.lk 55 (exec_fn 70 _ _ _ rfl rfl rfl (Zkcl1 _ _)) ?_;refine (Take_any TK.out (2) (by omega)).mono ?_;rintro e1 w207 ⟨r8,k9,rfl,hra,hrb,htk,hkp⟩;have hgc2:=GC.out.kp hkp HNE.out;have hpr2:=RwAt.kp PR.out hkp (fun e=>by have:=HTW.out; have:=HG.out; omega);clear hra hrb;obtain ⟨b4,hb4⟩:∃ b,Hid (decide (((r8:Nat):Int)=1)=b):=⟨_,ι rfl⟩;refine ⟨_,rfl,?_⟩;go_frame;clear TK;replace GC:=ι hgc2;replace PR:=ι hpr2;replace KT:=ι (Rg.Kp.trans (M:=fun z=>z=w1.heap.size) KT.out hkp (fun _ _ e=>e))
    have TK:=ι htk;clear hkp hgc2 hpr2;refine Rg.lr 56 (exec_bin (R:=.bool b4) .eql _ _ _ rfl rfl rfl (b_eql _ hb4.out)) ?_;go_frame;clear htk
    cases b4 with
    | false =>
     have GO2:=ι (GO.out.kt KT.out TK.out);have HFP:=ι (show FP (Fup F wr w207) w207 (.slice (some ⟨g,0,none⟩) d cap) (cyN d fr (fr+1+r7)) from PRow.fp PR.out HGY0.out HCP.out.1 HCP.out.2 hd1 (by omega) (.inr ⟨HG.out,PR.out.1⟩));obtain ⟨a9,c9,X9,r1,r2,r3,r4⟩:=GO2.out.push HFP.out ⟨_,_,_,rfl⟩ (by have:=HGL.out; omega) 22;have HGY:=ι HGY0.out;clear GO GC TK KT;go_upto_region 14 with (fail);refine Rg.wl ?_;refine Rg.lr 73 (exec_fieldG _ rfl rfl) ?_;go_frame;refine Rg.lr 74 (Rg.exec_load (v:=.slice gva gs.length gvc) _ _ rfl ⟨w3.heap.size,1,none⟩ rfl (Rg.run_loadSl _ _ Tryz.underlying22 GO2.out.g1)) ?_;go_frame;refine Rg.lm 75 (.slice (some ⟨g,0,none⟩) d cap) ?_;go_frame;refine Rg.lr 76 (Rg.exec_buildSlice _ _ _ rfl (.slice (some ⟨g,0,none⟩) d cap) rfl (run_build1P w207 _ ⟨_,_,_,rfl⟩)) ?_;go_frame;refine Rg.lr 77 (Rg.exec_append _ _ _ rfl rfl rfl r1) ?_;go_frame
     refine Rg.lr 78 (exec_fieldG _ rfl rfl) ?_;go_frame;refine Rg.list_skip none rfl rfl (Rg.exec_store _ _ _ rfl _ rfl _ rfl (Rg.run_storeSl _ infoPermsV r2 r3)) ?_;go_frame;generalize X9.setCell ⟨w3.heap.size,1,none⟩ (.slice a9 (gs.length+1) c9)=w399 at *;have GO3:=ι r4;have HGL2:=ι (show (gs++[(cyN d fr (fr+1+r7))]).length+q≤3 by rw [List.length_append]; have:=HGL.out; simp; omega)
     have HGS2:=ι (show ∀ s∈gs++[(cyN d fr (fr+1+r7))],Gd d s from fun s hs=>by
      rcases List.mem_append.1 hs with hs | hs
      ·exact HGS.out s hs
      ·rw [List.mem_singleton] at hs; rw [hs]; exact HGY.out)
     clear r1 r2 r3 r4;go_wp2
     go_roundw
     case rel=>exact ⟨q,_,_,_,_,by go_num,by omega,HGL2,HGS2,GO3⟩
     case measure=>simp [intOf]; try omega
    | true =>
     go_upto_region 13 with (fail);have hV0:Below w207.heap.size w207 w207.drew:=(Below.refl _ _).drew;replace GC:=ι (GC.out.up hV0);replace TK:=ι (TK.out.up hV0);replace PR:=ι (PR.out.up hV0);replace KT:=ι (KT.out.up hV0);generalize Fup (fun _:Nat=>True) w207 w207.drew=F1 at *;clear hV0;refine Rg.Any.begin (S:=Rg.Both 16 (fun W:World=>W.cell? ⟨w3.heap.size,0,none⟩=some (.int .i64 ((d:Nat):Int))) (fun _=>True)) mix ?_;generalize w207.drew=w208 at *;have hS:∀ (l:Array Bool) W,(fun W:World=>W.cell? ⟨w3.heap.size,0,none⟩=some (.int .i64 ((d:Nat):Int))) W→Rg.Both 16 (fun W:World=>W.cell? ⟨w3.heap.size,0,none⟩=some (.int .i64 ((d:Nat):Int))) (fun _=>True) l W:=fun l W h=>⟨.inr h,trivial⟩;have hS2:∀ (l:Array Bool) W,l.getD 16 false=true→Rg.Both 16 (fun W:World=>W.cell? ⟨w3.heap.size,0,none⟩=some (.int .i64 ((d:Nat):Int))) (fun _=>True) l W:=fun l W h=>⟨.inl h,trivial⟩
     have hI:(fun W:World=>W.cell? ⟨w3.heap.size,0,none⟩=some (.int .i64 ((d:Nat):Int))) w208:=GC.out.cell;refine Rg.tm 0 16 (.slice (some ⟨g,0,none⟩) d cap) 57 (hS _ _ hI) ?_;go_frame;refine Rg.tg 1 16 (.pointer (some ⟨w3.heap.size,0,none⟩)) 58 rfl rfl (.inl ⟨rfl,fun w _=>exec_fieldG0 _ rfl rfl⟩) (hS _ _ hI) ?_;go_frame;refine Rg.Any.takeT (i:=2) (t:=16) (v:=.int .i64 ((d:Nat):Int)) (some 59) rfl rfl (by kernel_rfl) (by kernel_rfl) (by kernel_rfl) (fun _ _ _ h=>h) rfl (by kernel_rfl) rfl (Rg.yields_cell _ _ rfl rfl ⟨w3.heap.size,0,none⟩ rfl (fun W hW=>run_loadInt hW)) (hS _ _ hI) ?_;go_frame;refine Rg.tm 4 16 (.int .i64 ((f2:Nat):Int)) 61 (hS _ _ hI) ?_;go_frame;refine Rg.tm 5 16 (.int .i64 ((f2:Nat):Int)) 62 (hS _ _ hI) ?_;go_frame;refine Rg.tg 6 16 (.int .i64 (((f2+1):Nat):Int)) 63 rfl rfl (.inl ⟨rfl,fun w _=>exec_bin (R:=.int .i64 (((f2+1):Nat):Int)) .add _ _ _ rfl rfl rfl (b_add _ (by omega) (by omega))⟩) (hS _ _ hI) ?_;go_frame
     refine Rg.tm 7 16 (.pointer (some ⟨w1.heap.size,0,none⟩)) 64 (hS _ _ hI) ?_;go_frame;refine Rg.tg 8 16 (.pointer (some ⟨w3.heap.size,0,none⟩)) 65 rfl rfl (.inl ⟨rfl,fun w _=>exec_fieldG0 _ rfl rfl⟩) (hS _ _ hI) ?_;go_frame;refine Rg.Any.takeT (i:=9) (t:=16) (v:=.int .i64 ((d:Nat):Int)) (some 66) rfl rfl (by kernel_rfl) (by kernel_rfl) (by kernel_rfl) (fun _ _ _ h=>h) rfl (by kernel_rfl) rfl (Rg.yields_cell _ _ rfl rfl ⟨w3.heap.size,0,none⟩ rfl (fun W hW=>run_loadInt hW)) (hS _ _ hI) ?_;go_frame;refine Rg.tm 10 16 (.int .i64 ((f2:Nat):Int)) 67 (hS _ _ hI) ?_;go_frame;refine Rg.tg 11 16 (.int .i64 (((d - f2):Nat):Int)) 68 rfl rfl (.inl ⟨rfl,fun w _=>exec_bin (R:=.int .i64 (((d - f2):Nat):Int)) .sub _ _ _ rfl rfl rfl (b_sub _ (by omega) (by omega))⟩) (hS _ _ hI) ?_;go_frame;refine Rg.Any.one (i:=3) (by kernel_rfl) (Rg.Any.ask (some 60) rfl rfl rfl _ _ (exec_fn1 37 _ _ rfl rfl (Zkcl0 _ _)) ?_)
     refine (kitOne_row d w208 hd1 (by omega)).mono ?_;rintro e1 w209 ⟨g2,cap2,rfl,hg,hc1,hc2,hro,hb⟩;have HG2:=ι (Nat.le_trans KT.out.size hg);have HC2:=ι (show d≤cap2∧cap2≤maxLen from ⟨hc1,hc2⟩);have HNG:=ι (show g≠g2 from fun e=>by have:=PR.out.1; omega);clear hg hc1 hc2;have hI2_u:=((Below.cell (p:=⟨w3.heap.size,0,none⟩) hb (lt_of_cell hI)).trans hI);clear hI;replace GC:=ι (GC.out.up hb);replace TK:=ι (TK.out.up hb);replace PR:=ι (PR.out.up hb);replace KT:=ι (KT.out.up hb);have P2:=ι hro;generalize Fup F1 w208 w209=F2 at *;clear hb;refine ⟨_,rfl,(hS _ _ hI2_u),?_⟩;go_frame;refine Rg.Any.one (i:=12) (by kernel_rfl) (Rg.Any.ask (some 69) rfl rfl rfl _ _ (exec_fn 70 _ _ _ rfl rfl rfl (Zkcl1 _ _)) ?_);refine (Take_any TK.out (((d - f2:Nat):Int)) (by omega)).mono ?_;rintro e1 w210 ⟨r9,k10,rfl,hra,hrb,htk,hkp⟩;have hgc2:=GC.out.kp hkp HNE.out
     have hpr2:=RwAt.kp PR.out hkp (fun e=>by have:=HTW.out; have:=HG.out; omega);have hp22:=RwAt.kp P2.out hkp (fun e=>by have:=HTW.out; have:=HG2.out; omega)
     have hr9:r9<d - f2:=by have:=hra (by omega); omega
     clear hra hrb;have hI3_k:=((World.cell?_of_block (a:=⟨w3.heap.size,0,none⟩) (hkp.block w3.heap.size (lt_of_cell hI2_u) HNE.out)).trans hI2_u);clear hI2_u;refine ⟨_,rfl,(hS _ _ hI3_k),?_⟩;go_frame;clear TK;replace GC:=ι hgc2;replace PR:=ι hpr2;replace P2:=ι hp22;replace KT:=ι (Rg.Kp.trans (M:=fun z=>z=w1.heap.size) KT.out hkp (fun _ _ e=>e));have TK:=ι htk;clear hkp hgc2 hpr2 hp22;refine Rg.tg 13 16 (.int .i64 (((f2+1+r9):Nat):Int)) 70 rfl rfl (.inl ⟨rfl,fun w _=>exec_bin (R:=.int .i64 (((f2+1+r9):Nat):Int)) .add _ _ _ rfl rfl rfl (b_add _ (by omega) (by omega))⟩) (hS _ _ hI3_k) ?_;go_frame;refine Rg.Any.one (i:=14) (by kernel_rfl) (Rg.Any.ask (some 71) rfl rfl rfl _ _ (exec_fn3 71 _ _ _ _ rfl rfl rfl rfl (Zlcl3 _ _)) ?_);refine (cycle_any (a:=f2) (b:=f2+1+r9) P2.out (by omega) (by omega) (by omega)).mono ?_;rintro e1 w211 ⟨rfl,hp2,hkp⟩
     have hgc2:=GC.out.kp hkp (fun e=>by have:=GO.out.g0.lt; have:=HG2.out; omega);have htk2:=TK.out.kp hkp (fun e=>by have:=HTW.out; have:=HG2.out; omega) (fun z e=>by have:=HTL2.out; have:=HTW.out; have:=HG2.out; omega);have hpr2:=RwAt.kp PR.out hkp HNG.out;have HGY1:=ι (show Gd d (cyN d f2 (f2+1+r9)) from cyN_gd (by omega) (by omega));have hI4_k:=((World.cell?_of_block (a:=⟨w3.heap.size,0,none⟩) (hkp.block w3.heap.size (lt_of_cell hI3_k) (fun e=>by have:=GO.out.g0.lt; have:=HG2.out; omega))).trans hI3_k);clear hI3_k;refine ⟨_,rfl,(hS _ _ hI4_k),?_⟩;go_frame;clear P2;replace GC:=ι hgc2;replace PR:=ι hpr2;replace TK:=ι htk2;replace KT:=ι (Rg.Kp.trans (M:=fun z=>z=w1.heap.size) KT.out hkp (fun z hz e=>by have:=HG2.out; omega));have P3:=ι hp2;clear hkp hgc2 htk2 hpr2;have HSZM:=ι (show wr.heap.size≤w211.heap.size from KT.out.size)
     refine Rg.Any.one (i:=15) (by kernel_rfl) (Rg.Any.ask (some 72) rfl rfl rfl _ _ (exec_fn 34 _ _ _ rfl rfl rfl (Zlcl4 _ _)) ?_);refine (kitMul_any _ _ (cyN d fr (fr+1+r7)) (cyN d f2 (f2+1+r9)) w211 (PRow.np PR.out HGY0.out HCP.out.1 HCP.out.2 (by omega)) (PRow.np P3.out HGY1.out HC2.out.1 HC2.out.2 (by omega)) (fun z hz=>by rw [HGY1.out.2]; exact gd_mem HGY0.out hz) (by rw [HGY0.out.2]; omega)).mono ?_;rintro e1 w212 ⟨mv,rfl,hmv,hb⟩;obtain ⟨mb,mo,mc,rfl⟩:=FP.shape' (FP.new (F:=fun _=>True) hmv) (Cm.gd_mul HGY0.out HGY1.out) hd1;have hmf:=FP.new (F:=F) hmv;clear hmv;have hI5_u:=((Below.cell (p:=⟨w3.heap.size,0,none⟩) hb (lt_of_cell hI4_k)).trans hI4_k);clear hI4_k;replace GC:=ι (GC.out.up hb);replace PR:=ι (PR.out.up hb);replace TK:=ι (TK.out.up hb);replace P3:=ι (P3.out.up hb);replace KT:=ι (KT.out.up hb);have MF:=ι hmf;generalize Fup (fun _:Nat=>True) w211 w212=F3 at *
     clear hb;refine ⟨_,rfl,(hS _ _ hI5_u),?_⟩;go_frame;refine Rg.Any.one (i:=16) (by kernel_rfl) (Rg.Any.run (some 8) rfl rfl rfl (Rg.xa (.slice (some ⟨mb,mo,none⟩) d mc) _ rfl rfl) (hS2 _ _ rfl) ?_);go_frame;refine Rg.Any.done (by kernel_rfl) ?_ _;clear hS2;clear hS hI5_u;have GO2:=ι (GO.out.kt KT.out TK.out)
     have HFP:=ι (show FP (Fup F wr w212) w212 (.slice (some ⟨mb,mo,none⟩) d mc) (Ma.mulN (cyN d fr (fr+1+r7)) (cyN d f2 (f2+1+r9))) from MF.out.mono (fun z hz=>by rcases hz with hz | hz; exact .inl hz; exact .inr ⟨Nat.le_trans HSZM.out hz.1,hz.2⟩))
     obtain ⟨a9,c9,X9,r1,r2,r3,r4⟩:=GO2.out.push HFP.out ⟨_,_,_,rfl⟩ (by have:=HGL.out; omega) 22;have HGY:=ι (Cm.gd_mul HGY0.out HGY1.out);clear GO GC TK KT;go_upto_region 14 with (fail);refine Rg.wl ?_;refine Rg.lr 73 (exec_fieldG _ rfl rfl) ?_;go_frame;refine Rg.lr 74 (Rg.exec_load (v:=.slice gva gs.length gvc) _ _ rfl ⟨w3.heap.size,1,none⟩ rfl (Rg.run_loadSl _ _ Tryz.underlying22 GO2.out.g1)) ?_;go_frame;refine Rg.lm 75 (.slice (some ⟨mb,mo,none⟩) d mc) ?_;go_frame;refine Rg.lr 76 (Rg.exec_buildSlice _ _ _ rfl (.slice (some ⟨mb,mo,none⟩) d mc) rfl (run_build1P w212 _ ⟨_,_,_,rfl⟩)) ?_;go_frame;refine Rg.lr 77 (Rg.exec_append _ _ _ rfl rfl rfl r1) ?_;go_frame;refine Rg.lr 78 (exec_fieldG _ rfl rfl) ?_;go_frame;refine Rg.list_skip none rfl rfl (Rg.exec_store _ _ _ rfl _ rfl _ rfl (Rg.run_storeSl _ infoPermsV r2 r3)) ?_;go_frame;generalize X9.setCell ⟨w3.heap.size,1,none⟩ (.slice a9 (gs.length+1) c9)=w399 at *
     have GO3:=ι r4;have HGL2:=ι (show (gs++[(Ma.mulN (cyN d fr (fr+1+r7)) (cyN d f2 (f2+1+r9)))]).length+q≤3 by rw [List.length_append]; have:=HGL.out; simp; omega)
     have HGS2:=ι (show ∀ s∈gs++[(Ma.mulN (cyN d fr (fr+1+r7)) (cyN d f2 (f2+1+r9)))],Gd d s from fun s hs=>by
      rcases List.mem_append.1 hs with hs | hs
      ·exact HGS.out s hs
      ·rw [List.mem_singleton] at hs; rw [hs]; exact HGY.out)
     clear r1 r2 r3 r4;go_wp2
     go_roundw
     case rel=>exact ⟨q,_,_,_,_,by go_num,by omega,HGL2,HGS2,GO3⟩
     case measure=>simp [intOf]; try omega
end Go.Proofs.YtdnmmibchbceeaaGreat

namespace Go.Proofs.YtdnmmibchbceeaaGreat
open Go.RowKit
open Go.Proofs
attribute [local irreducible] Go.Calls Go.wpStill
def lessL:List Int→List Int→Bool
 | [],[]=>false
 | [],_ :: _=>true
 | _ :: _,[]=>false
 | x :: a,y :: b=>if x=y then lessL a b else decide (x<y)
theorem lessL_irr:∀ a:List Int,lessL a a=false
 | []=>rfl
 | x :: a=>by rw [lessL,if_pos rfl]; exact lessL_irr a
theorem lessL_trans:∀ {a b c:List Int},lessL a b=true→lessL b c=true→lessL a c=true
 | [],[],_,h,_=>by simp [lessL] at h
 | [],_ :: _,[],_,h=>by simp [lessL] at h
 | [],_ :: _,_ :: _,_,_=>rfl
 | _ :: _,[],_,h,_=>by simp [lessL] at h
 | _ :: _,_ :: _,[],_,h=>by simp [lessL] at h
 | x :: a,y :: b,z :: c,h,h'=>by
  rw [lessL] at h h' ⊢
  by_cases e1:x=y
  ·rw [if_pos e1] at h
   by_cases e2:y=z
   ·rw [if_pos e2] at h'; rw [if_pos (e1.trans e2)]; exact lessL_trans h h'
   ·rw [if_neg e2] at h'; rw [if_neg (by omega)]; simp at h' ⊢; omega
  ·rw [if_neg e1] at h
   by_cases e2:y=z
   ·rw [if_neg (by omega)]; simp at h ⊢; omega
   ·rw [if_neg e2] at h'; simp at h h'; rw [if_neg (by omega)]; simp; omega
theorem lessL_total:∀ {a b:List Int},lessL a b=false→a≠b→lessL b a=true
 | [],[],_,h=>absurd rfl h
 | [],_ :: _,h,_=>by simp [lessL] at h
 | _ :: _,[],_,_=>rfl
 | x :: a,y :: b,h,hn=>by
  rw [lessL] at h ⊢
  by_cases e:x=y
  ·rw [if_pos e] at h; rw [if_pos e.symm]
   exact lessL_total h (fun e2=>hn (by rw [e,e2]))
  ·rw [if_neg e] at h; rw [if_neg (by omega)]; simp at h ⊢; omega
def Asc (L:List (List Int)):Prop:=∀ i j (hi:i<L.length) (hj:j<L.length),i<j→lessL L[i] L[j]=true
structure Place (L:List (List Int)) (x:List Int) (lo:Nat):Prop where
 le:lo≤L.length
 lt:∀ i (h:i<L.length),i<lo→lessL L[i] x=true
 ge:∀ i (h:i<L.length),lo≤i→lessL L[i] x=false
theorem Place.mem {L:List (List Int)} {x:List Int} {lo:Nat} (h:Place L x lo) (hs:Asc L):x∈L↔∃ hl:lo<L.length,L[lo]=x:=by
 constructor
 ·intro hx
  obtain ⟨j,hj,rfl⟩:=List.getElem_of_mem hx
  have h1:¬ j<lo:=fun e=>by have:=h.lt j hj e; rw [lessL_irr] at this; cases this
  have h2:¬ lo<j:=fun e=>by
   have:=hs lo j (by omega) hj e;have h3:=h.ge lo (by omega) (Nat.le_refl _);rw [this] at h3; cases h3
  obtain rfl:lo=j:=by omega
  exact ⟨hj,rfl⟩
 ·rintro ⟨hl,rfl⟩; exact List.getElem_mem hl
def putIn (L:List (List Int)) (lo:Nat) (x:List Int):List (List Int):=L.take lo++(x :: L.drop lo)
theorem mem_putIn {L:List (List Int)} {lo:Nat} {x y:List Int}:y∈putIn L lo x↔y∈L∨y=x:=by
 unfold putIn;rw [List.mem_append,List.mem_cons]
 constructor
 ·rintro (h | h | h)
  ·exact .inl (List.mem_of_mem_take h)
  ·exact .inr h
  ·exact .inl (List.mem_of_mem_drop h)
 ·rintro (h | h)
  ·rw [← List.take_append_drop lo L,List.mem_append] at h
   rcases h with h | h
   ·exact .inl h
   ·exact .inr (.inr h)
  ·exact .inr (.inl h)
theorem asc_iff (L:List (List Int)):Asc L↔L.Pairwise (fun a b=>lessL a b=true):=by
 rw [List.pairwise_iff_getElem];exact ⟨fun h i j hi hj hij=>h i j hi hj hij,fun h i j hi hj hij=>h i j hi hj hij⟩
theorem asc_putIn {L:List (List Int)} {lo:Nat} {x:List Int} (h:Place L x lo) (hs:Asc L) (hx:x∉L):Asc (putIn L lo x):=by
 rw [asc_iff] at hs ⊢;unfold putIn;rw [← List.take_append_drop lo L,List.pairwise_append] at hs;obtain ⟨h1,h2,h3⟩:=hs;rw [List.pairwise_append,List.pairwise_cons];refine ⟨h1,⟨fun b hb=>?_,h2⟩,fun a ha b hb=>?_⟩
 ·obtain ⟨j,hj,rfl⟩:=List.getElem_of_mem hb
  rw [List.getElem_drop];refine lessL_total (h.ge _ (by simp at hj; omega) (by omega)) (fun e=>hx ?_);rw [← e]; exact List.getElem_mem _
 ·rcases List.mem_cons.1 hb with rfl | hb
  ·obtain ⟨j,hj,rfl⟩:=List.getElem_of_mem ha
   rw [List.getElem_take];exact h.lt j (by simp at hj; omega) (by simp at hj; omega)
  ·exact h3 a ha b hb
end Go.Proofs.YtdnmmibchbceeaaGreat

namespace Go.Proofs.YtdnmmibchbceeaaGreat
open Go.RowKit
open Go.Proofs
attribute [local irreducible] Go.Calls Go.wpList
def cmpI (x y:Int):Int:=if x<y then -1 else if y<x then 1 else 0
def cmpL:List Int→List Int→Int
 | [],[]=>0
 | [],_ :: _=>-1
 | _ :: _,[]=>1
 | x :: a,y :: b=>if cmpI x y=0 then cmpL a b else cmpI x y
theorem cmpL_lt:∀ (a b:List Int),decide (cmpL a b<0)=lessL a b
 | [],[]=>rfl
 | [],_ :: _=>rfl
 | _ :: _,[]=>rfl
 | x :: a,y :: b=>by
  unfold cmpL lessL cmpI
  by_cases h1:x=y
  ·subst h1
   simp only [Int.lt_irrefl,if_false,if_true];exact cmpL_lt a b
  ·by_cases h2:x<y
   ·simp [h1,h2]
   ·have h3:y<x:=by omega
    simp [h1,h2,h3]
theorem cmpL_drop {a b:List Int} {k:Nat} (ha:k<a.length) (hb:k<b.length):cmpL (a.drop k) (b.drop k)=if cmpI a[k] b[k]=0 then cmpL (a.drop (k+1)) (b.drop (k+1)) else cmpI a[k] b[k]:=by
 rw [List.drop_eq_getElem_cons ha,List.drop_eq_getElem_cons hb,cmpL]
theorem cmpL_one {a b:List Int} {k:Nat} (ha:k<a.length) (hb:b.length≤k):cmpL (a.drop k) (b.drop k)=1:=by
 rw [List.drop_eq_getElem_cons ha,List.drop_of_length_le (l:=b) hb,cmpL]
theorem cmpL_end {a b:List Int} {k:Nat} (ha:a.length≤k) (hb:k≤b.length) (hk:k≤a.length):cmpL (a.drop k) (b.drop k)=if a.length<b.length then -1 else 0:=by
 have e:k=a.length:=by omega
 subst e;rw [List.drop_of_length_le (l:=a) (Nat.le_refl _)]
 by_cases h:a.length<b.length
 ·rw [List.drop_eq_getElem_cons h,if_pos h,cmpL]
 ·rw [List.drop_of_length_le (l:=b) (by omega),if_neg h,cmpL]
theorem cmpCmp_any (x y:Int) (w:World):Calls Tryz.prog 111 #[.int .i64 x,.int .i64 y] w fun e w'=>e=.returned (.int .i64 (cmpI x y))∧w'=w:=by
 by_cases h1:x<y
 ·go_enter Tryz.func111,Tryz.ntmps111
  go_wp2;go_ret;exact ⟨by rw [show cmpI x y = -1 by unfold cmpI; rw [if_pos (by omega)]]; rfl,rfl⟩
 ·by_cases h2:y<x
  ·go_enter Tryz.func111,Tryz.ntmps111
   go_wp2;go_ret;exact ⟨by rw [show cmpI x y=1 by unfold cmpI; rw [if_neg (by omega),if_pos (by omega)]]; rfl,rfl⟩
  ·go_enter Tryz.func111,Tryz.ntmps111
   go_wp2;go_ret;exact ⟨by rw [show cmpI x y=0 by unfold cmpI; rw [if_neg (by omega),if_neg (by omega)]]; rfl,rfl⟩
end Go.Proofs.YtdnmmibchbceeaaGreat

namespace Go.Proofs.YtdnmmibchbceeaaGreat
open Go.RowKit
open Go.Proofs
open Go.Proofs.Ob
open Go.Proofs.Cm (Gd Gr)
attribute [local irreducible] Go.Calls Go.wpList
theorem ofN_back (l:List Nat):(Ma.ofN l).map Int.toNat=l:=by
 unfold Ma.ofN;rw [List.map_map];exact List.map_id'' (fun _=>rfl) l
theorem ofN_inj' {a b:List Nat} (h:Ma.ofN a=Ma.ofN b):a=b:=by rw [← ofN_back a,h,ofN_back]
theorem memP {y:List Nat} {A:List (List Nat)}:Ma.ofN y∈A.map Ma.ofN↔y∈A :=
 ⟨fun h=>by obtain ⟨z,hz,e⟩:=List.mem_map.1 h; exact ofN_inj' e▸hz,fun h=>List.mem_map_of_mem h⟩
def putN (A:List (List Nat)) (k:Nat) (y:List Nat):List (List Nat):=A.take k++(y :: A.drop k)
theorem putN_map (A:List (List Nat)) (k:Nat) (y:List Nat):(putN A k y).map Ma.ofN=putIn (A.map Ma.ofN) k (Ma.ofN y):=by simp [putN,putIn]
theorem len_putN {A:List (List Nat)} {k:Nat} {y:List Nat} (h:k≤A.length):(putN A k y).length=A.length+1:=by simp [putN]; omega
theorem mem_putN {A:List (List Nat)} {k:Nat} {x y:List Nat}:x∈putN A k y↔x∈A∨x=y:=by
 rw [← memP,putN_map,mem_putIn,memP];exact ⟨fun h=>h.imp id ofN_inj',fun h=>h.imp id (congrArg _)⟩
structure EO (d:Nat) (gs:List (List Nat)) (most:Nat) (A T:List (List Nat)):Prop where
 asc:Asc (A.map Ma.ofN)
 inG:∀ y∈A,Gr d (·∈gs) y
 one:Ma.oneN d∈A
 sub:∀ y∈T,y∈A
 le:A.length≤most
 tl:T.length≤A.length
 clo:∀ z∈A,z∈T∨∀ g∈gs,Ma.mulN z g∈A
structure EJ (d:Nat) (gs:List (List Nat)) (most:Nat) (A T:List (List Nat)) (x:List Nat) (i:Nat):Prop where
 asc:Asc (A.map Ma.ofN)
 inG:∀ y∈A,Gr d (·∈gs) y
 one:Ma.oneN d∈A
 sub:∀ y∈T,y∈A
 le:A.length≤most
 tl:T.length≤A.length
 xA:x∈A
 clo:∀ z∈A,z∈T∨z=x∨∀ g∈gs,Ma.mulN z g∈A
 don:∀ j (h:j<gs.length),j<i→Ma.mulN x gs[j]∈A
def AllE (d:Nat) (gs A:List (List Nat)):Prop:=Asc (A.map Ma.ofN)∧∀ y,y∈A↔Gr d (·∈gs) y
theorem asc_one (l:List (List Int)) (h:l.length≤1):Asc l:=fun i j hi hj hij=>by omega
theorem EO.start {d:Nat} {gs:List (List Nat)} {most:Nat} (h:1≤most):EO d gs most [Ma.oneN d] [Ma.oneN d] :=
 ⟨asc_one _ (by simp),fun y hy=>by rw [List.mem_singleton] at hy; subst hy; exact .one,by simp,fun y hy=>hy,by simpa using h,by simp,fun z hz=>.inl hz⟩
theorem EJ.new {d:Nat} {gs:List (List Nat)} {most:Nat} {A T:List (List Nat)} {x:List Nat} {i k:Nat} (h:EJ d gs most A T x i) (hi:i<gs.length) (hg:∀ s∈gs,Gd d s) (hy:Ma.mulN x gs[i]∉A) (hm:A.length<most) (hP:Place (A.map Ma.ofN) (Ma.ofN (Ma.mulN x gs[i])) k) :
  EJ d gs most (putN A k (Ma.mulN x gs[i])) (T++[Ma.mulN x gs[i]]) x (i+1):=by
 have hk:k≤A.length:=by have:=hP.le; simpa using this
 have hG:Gr d (·∈gs) (Ma.mulN x gs[i]):=(Gr.isG hg).mul _ _ (h.inG x h.xA) (.gen _ (List.getElem_mem hi));refine ⟨?_,fun y hy=>?_,mem_putN.2 (.inl h.one),fun y hy=>?_,by rw [len_putN hk]; omega,by rw [len_putN hk,List.length_append]; have:=h.tl; simp; omega,mem_putN.2 (.inl h.xA),fun z hz=>?_,fun j hj hji=>?_⟩
 ·rw [putN_map]; exact asc_putIn hP h.asc (fun e=>hy (memP.1 e))
 ·rcases mem_putN.1 hy with e | rfl
  ·exact h.inG y e
  ·exact hG
 ·rcases List.mem_append.1 hy with e | e
  ·exact mem_putN.2 (.inl (h.sub y e))
  ·exact mem_putN.2 (.inr (by simpa using e))
 ·rcases mem_putN.1 hz with e | rfl
  ·rcases h.clo z e with e | e | e
   ·exact .inl (List.mem_append_left _ e)
   ·exact .inr (.inl e)
   ·exact .inr (.inr fun g hg=>mem_putN.2 (.inl (e g hg)))
  ·exact .inl (by simp)
 ·rcases Nat.lt_or_ge j i with e | e
  ·exact mem_putN.2 (.inl (h.don j hj e))
  ·obtain rfl:j=i:=by omega
   exact mem_putN.2 (.inr rfl)
theorem EJ.out {d:Nat} {gs:List (List Nat)} {most:Nat} {A T:List (List Nat)} {x:List Nat} {i:Nat} (h:EJ d gs most A T x i) (hi:gs.length≤i):EO d gs most A T :=
 ⟨h.asc,h.inG,h.one,h.sub,h.le,h.tl,fun z hz=>by
  rcases h.clo z hz with e | rfl | e
  ·exact .inl e
  ·refine .inr fun g hg=>?_
   obtain ⟨j,hj,rfl⟩:=List.getElem_of_mem hg;exact h.don j hj (by omega)
  ·exact .inr e⟩
theorem EO.done {d:Nat} {gs:List (List Nat)} {most:Nat} {A:List (List Nat)} (h:EO d gs most A []) (hg:∀ s∈gs,Gd d s):AllE d gs A :=
 ⟨h.asc,fun y=>⟨h.inG y,fun hy=>Cm.gr_ind hg (P:=fun z=>z∈A) h.one (fun x s _ hx hs=>by
  rcases h.clo x hx with e | e
  ·simp at e
  ·exact e s hs) hy⟩⟩
theorem asc_nodup {A:List (List Nat)} (h:Asc (A.map Ma.ofN)):A.Nodup:=by
 rw [asc_iff] at h;rw [List.pairwise_map] at h
 exact h.imp fun hab e=>by subst e; rw [lessL_irr] at hab; cases hab
theorem RowH.at {B:Nat} {F M:Nat→Prop} {W:World} {v:Value} {l:List (List Nat)} (h:RowH B F M W v l) {i:Nat} (hi:i<l.length):∃ b c u,v=.slice (some ⟨b,0,none⟩) l.length c∧l.length≤c∧b<W.heap.size∧W.cell? ⟨b,i,none⟩=some u∧FP F W u l[i]:=by
 obtain ⟨us,h1,h2⟩:=h.own;obtain ⟨-,a,c,rfl,h3,h4,h5⟩:=Rg.own_elts h1 h2;rw [List.length_map] at h3;obtain ⟨g,rfl,hg,hx⟩:=h5 (by rw [List.length_map]; omega);obtain ⟨u,hu1,hu2⟩:=hx i (by simpa using hi);exact ⟨g,c,u,congrArg (fun n=>Value.slice _ n c) (List.length_map ..),h3,hg,hu1,by rw [List.getElem_map] at hu2; exact hu2⟩
theorem FP.nil0 (F:Nat→Prop) (w:World):FP F w (.slice none 0 0) []:=⟨none,0,rfl,Nat.le_refl _,Nat.zero_le _,Nat.zero_le _,fun h=>absurd h (Nat.lt_irrefl 0)⟩

theorem RowH.one {B:Nat} {F M:Nat→Prop} {W:World} {u:Value} {x:List Nat} (hB:B≤W.heap.size) (hu:FP F W u x) (hs:∃ a m c,u=.slice a m c) (hF:∀ k,F k→k<W.heap.size) (hM:∀ k,M k→k<W.heap.size) :
  RowH B F M (W.alloc (.cells #[u] 30)) (.slice (some ⟨W.heap.size,0,none⟩) 1 1) [x]:=by
 have hb:Below W.heap.size W (W.alloc (.cells #[u] 30)):=(Below.refl _ _).alloc (Nat.le_refl _) _;refine ⟨Nat.le_trans hB hb.size,⟨[u],⟨rfl,.inr ⟨W.heap.size,1,#[u],rfl,hB,by show (W.heap.push _)[W.heap.size]?=_; simp,Nat.le_refl _,by decide,rfl,rfl⟩⟩,?_⟩,fun k e=>?_⟩
 ·exact Rg.FElts.one (Rg.FI.kp hu (Rg.Kp.of_below hb) (fun _ _=>id))
 ·simp only [Value.ownBlock,Option.some.injEq] at e
  subst e;exact ⟨fun h=>Nat.lt_irrefl _ (hF _ h),fun h=>Nat.lt_irrefl _ (hM _ h)⟩
end Go.Proofs.YtdnmmibchbceeaaGreat

namespace Go.Proofs.YtdnmmibchbceeaaGreat
open Go.Proofs
open Go.Proofs.Cm (Gr Gd IsChain IsG St Fx ap Lst)
def mulAll (r A:List (List Nat)):List (List Nat):=r.flatMap fun u=>A.map (Ma.mulN u)
theorem len_mulAll (r A:List (List Nat)):(mulAll r A).length=r.length*A.length:=by
 unfold mulAll
 induction r with
 | nil=>simp
 | cons u r ih=>rw [List.flatMap_cons,List.length_append,ih,List.length_map,List.length_cons,Nat.succ_mul,Nat.add_comm]
theorem mem_mulAll {r A:List (List Nat)} {x:List Nat}:x∈mulAll r A↔∃ u∈r,∃ z∈A,Ma.mulN u z=x:=by
 unfold mulAll;simp only [List.mem_flatMap,List.mem_map]
def prodK (n:Nat) (R:List (List (List Nat))):Nat→List (List Nat)
 | 0=>[Ma.oneN n]
 | i+1=>mulAll (R.getD i []) (prodK n R i)
structure PK (n:Nat) (H:List Nat→Prop) (i:Nat) (L:List (List Nat)):Prop where
 inH:∀ z∈L,H z
 all:∀ x,H x→∃ s z,St H i s∧z∈L∧x=Ma.mulN s z
 sep:∀ z z' s s',z∈L→z'∈L→St H i s→St H i s'→Ma.mulN s z=Ma.mulN s' z'→z=z'
 nd:L.Nodup
theorem PK.zero {n:Nat} {H:List Nat→Prop} (hH:IsG n H):PK n H 0 [Ma.oneN n] :=
 ⟨fun z hz=>by rw [List.mem_singleton] at hz; subst hz; exact hH.one,fun x hx=>⟨x,Ma.oneN n,⟨hx,fun j hj=>absurd hj (Nat.not_lt_zero _)⟩,by simp,(Cm.mul_one (hH.gd x hx)).symm⟩,fun z z' _ _ hz hz' _ _ _=>by rw [List.mem_singleton] at hz hz'; rw [hz,hz'],by simp⟩
theorem rep_at {n:Nat} {H:List Nat→Prop} {O:List (List Nat)} {R:List (List (List Nat))} (h:IsChain n H O R) {i:Nat} (hi:i<n) {k:Nat} (hk:k<(R.getD i []).length):Lst n (fun z=>St H i z∧ap z i=(O.getD i []).getD k 0) (R.getD i [])[k]:=by
 have:=h.rep i k hi (by rw [← h.len i hi]; exact hk)
 rwa [Cm.getD_in hk] at this
theorem rep_mem {n:Nat} {H:List Nat→Prop} {O:List (List Nat)} {R:List (List (List Nat))} (h:IsChain n H O R) {i:Nat} (hi:i<n) {u:List Nat} (hu:u∈R.getD i []):Lst n (fun z=>St H i z∧ap z i=ap u i) u:=by
 obtain ⟨k,hk,rfl⟩:=List.getElem_of_mem hu;have:=rep_at h hi hk;have e:=this.1.2;rw [← e] at this;exact this
theorem rep_of {n:Nat} {H:List Nat→Prop} {O:List (List Nat)} {R:List (List (List Nat))} (h:IsChain n H O R) {i:Nat} (hi:i<n) {s:List Nat} (hs:St H i s):∃ u∈R.getD i [],St H i u∧ap u i=ap s i:=by
 obtain ⟨k,hk,e⟩:=List.getElem_of_mem ((h.orb i (ap s i) hi).2 ⟨s,hs,rfl⟩)
 have hk2:k<(R.getD i []).length:=by rw [h.len i hi]; exact hk
 have h1:=(rep_at h hi hk2).1;refine ⟨_,List.getElem_mem hk2,h1.1,?_⟩;rw [h1.2,Cm.getD_in hk,e]
theorem rep_pair {n:Nat} {H:List Nat→Prop} {O:List (List Nat)} {R:List (List (List Nat))} (h:IsChain n H O R) {i:Nat} (hi:i<n):(R.getD i []).Pairwise (fun u v=>ap u i<ap v i):=by
 rw [List.pairwise_iff_getElem];intro a b ha hb hab
 have ha2:a<(O.getD i []).length:=by rw [← h.len i hi]; exact ha
 have hb2:b<(O.getD i []).length:=by rw [← h.len i hi]; exact hb
 rw [(rep_at h hi ha).1.2,(rep_at h hi hb).1.2,Cm.getD_in ha2,Cm.getD_in hb2];exact (List.pairwise_iff_getElem.1 (h.asc i hi)) a b ha2 hb2 hab
theorem PK.step {n:Nat} {H:List Nat→Prop} (hH:IsG n H) {O:List (List Nat)} {R:List (List (List Nat))} (h:IsChain n H O R) {i:Nat} (hi:i<n) {L:List (List Nat)} (hL:PK n H i L):PK n H (i+1) (mulAll (R.getD i []) L):=by
 have key:∀ u z u' z' s s',u∈R.getD i []→u'∈R.getD i []→z∈L→z'∈L→St H (i+1) s→St H (i+1) s'→Ma.mulN s (Ma.mulN u z)=Ma.mulN s' (Ma.mulN u' z')→z=z'∧u=u':=by
  intro u z u' z' s s' hu hu' hz hz' hs hs' e;have l1:=rep_mem h hi hu;have l2:=rep_mem h hi hu';have gs:=hH.gd _ hs.1;have gs':=hH.gd _ hs'.1;have gu:=hH.gd _ l1.1.1.1;have gu':=hH.gd _ l2.1.1.1;rw [← Cm.mul_assoc gs gu,← Cm.mul_assoc gs' gu'] at e;have a1:St H i (Ma.mulN s u):=⟨hH.mul _ _ hs.1 l1.1.1.1,Fx.mul gs (Nat.le_of_lt hi) (hs.2.mono (Nat.le_succ _)) l1.1.1.2⟩;have a2:St H i (Ma.mulN s' u'):=⟨hH.mul _ _ hs'.1 l2.1.1.1,Fx.mul gs' (Nat.le_of_lt hi) (hs'.2.mono (Nat.le_succ _)) l2.1.1.2⟩;have ez:=hL.sep z z' _ _ hz hz' a1 a2 e;subst ez;have gz:=hH.gd _ (hL.inH z hz);have e2:=congrArg (fun t=>Ma.mulN t (Ma.invN z)) e;simp only [Cm.mul_cancel_inv (Cm.gd_mul gs gu) gz,Cm.mul_cancel_inv (Cm.gd_mul gs' gu') gz] at e2;have e3:=congrArg (fun t=>ap t i) e2;simp only [Cm.ap_mul gs hi,Cm.ap_mul gs' hi,hs.2 i (Nat.lt_succ_self _),hs'.2 i (Nat.lt_succ_self _)] at e3
  rw [← e3] at l2;exact ⟨rfl,l1.uniq l2⟩
 refine ⟨fun y hy=>?_,fun x hx=>?_,fun y y' s s' hy hy' hs hs' e=>?_,?_⟩
 ·obtain ⟨u,hu,z,hz,rfl⟩:=mem_mulAll.1 hy
  exact hH.mul _ _ (rep_mem h hi hu).1.1.1 (hL.inH z hz)
 ·obtain ⟨s,z,hs,hz,rfl⟩:=hL.all x hx
  obtain ⟨u,hu,su,eu⟩:=rep_of h hi hs;have gs:=hH.gd _ hs.1;have gu:=hH.gd _ su.1;refine ⟨Ma.mulN s (Ma.invN u),Ma.mulN u z,⟨hH.mul _ _ hs.1 (hH.inv _ su.1),fun j hj=>?_⟩,mem_mulAll.2 ⟨u,hu,z,hz,rfl⟩,?_⟩
  ·rw [Cm.ap_mul gs (by omega)]
   rcases Nat.lt_or_ge j i with e | e
   ·rw [hs.2 j e]
    exact Fx.inv gu (Nat.le_of_lt hi) su.2 j e
   ·obtain rfl:j=i:=by omega
    rw [← eu];exact Cm.ap_inv gu hi
  ·rw [← Cm.mul_assoc (Cm.gd_mul gs (Cm.gd_inv gu)) gu,Cm.mul_inv_cancel gs gu]
 ·obtain ⟨u,hu,z,hz,rfl⟩:=mem_mulAll.1 hy
  obtain ⟨u',hu',z',hz',rfl⟩:=mem_mulAll.1 hy';obtain ⟨rfl,rfl⟩:=key u z u' z' s s' hu hu' hz hz' hs hs' e;rfl
 ·have o1:St H (i+1) (Ma.oneN n):=⟨hH.one,Fx.one (by omega)⟩
  have gm:∀ u∈R.getD i [],∀ z∈L,Gd n (Ma.mulN u z):=fun u hu z hz=>Cm.gd_mul (hH.gd _ (rep_mem h hi hu).1.1.1) (hH.gd _ (hL.inH z hz))
  have k2:∀ u∈R.getD i [],∀ u'∈R.getD i [],∀ z∈L,∀ z'∈L,Ma.mulN u z=Ma.mulN u' z'→z=z'∧u=u':=fun u hu u' hu' z hz z' hz' e =>
   key u z u' z' _ _ hu hu' hz hz' o1 o1 (by rw [e])
  unfold mulAll;rw [List.Nodup,List.pairwise_flatMap];refine ⟨fun u hu=>?_,?_⟩
  ·rw [List.pairwise_map]
   exact List.Pairwise.imp_of_mem (fun {a b} ha hb hne e=>hne (k2 u hu u hu a ha b hb e).1) hL.nd
  ·refine List.Pairwise.imp_of_mem (fun {u v} hu hv hlt x hx y hy e=>?_) (rep_pair h hi)
   obtain ⟨z,hz,rfl⟩:=List.mem_map.1 hx;obtain ⟨z',hz',rfl⟩:=List.mem_map.1 hy;have:=(k2 u hu v hv z hz z' hz' e).2;subst this;omega
theorem prodK_PK {n:Nat} {H:List Nat→Prop} (hH:IsG n H) {O:List (List Nat)} {R:List (List (List Nat))} (h:IsChain n H O R):∀ {i:Nat},i≤n→PK n H i (prodK n R i)
 | 0,_=>PK.zero hH
 | i+1,hi=>PK.step hH h hi (prodK_PK hH h (Nat.le_of_lt hi))
theorem prodK_all {n:Nat} {H:List Nat→Prop} (hH:IsG n H) {O:List (List Nat)} {R:List (List (List Nat))} (h:IsChain n H O R):(prodK n R n).Nodup∧∀ x,x∈prodK n R n↔H x:=by
 have hp:=prodK_PK hH h (Nat.le_refl n);refine ⟨hp.nd,fun x=>⟨hp.inH x,fun hx=>?_⟩⟩;obtain ⟨s,z,hs,hz,rfl⟩:=hp.all x hx;have e:=Fx.all (hH.gd _ hs.1) hs.2;rw [e,Cm.one_mul (hH.gd _ (hp.inH z hz))];exact hz
def fall (n:Nat):Nat→Nat
 | 0=>1
 | i+1=>(n - i)*fall n i
theorem prodK_le {n:Nat} {H:List Nat→Prop} (hH:IsG n H) {O:List (List Nat)} {R:List (List (List Nat))} (h:IsChain n H O R):∀ {i:Nat},i≤n→(prodK n R i).length≤fall n i
 | 0,_=>Nat.le_refl 1
 | i+1,hi=>by
  have h1:=prodK_le hH h (i:=i) (Nat.le_of_lt hi);have h2:=chain_len hH h (i:=i) hi;rw [← h.len i hi] at h2;show (mulAll _ _).length≤_;rw [len_mulAll];exact Nat.mul_le_mul h2 h1
theorem fall_720:∀ n,n<7→∀ i,i<7→i≤n→fall n i≤720:=by decide
theorem prodK_720 {n:Nat} {H:List Nat→Prop} (hH:IsG n H) {O:List (List Nat)} {R:List (List (List Nat))} (h:IsChain n H O R) (hn:n≤6) {i:Nat} (hi:i≤n):(prodK n R i).length≤720 :=
 Nat.le_trans (prodK_le hH h hi) (fall_720 n (by omega) i (by omega) hi)
theorem AllE.len {d:Nat} {gs A:List (List Nat)} (hg:∀ s∈gs,Gd d s) {O:List (List Nat)} {R:List (List (List Nat))} (h:IsChain d (Gr d (·∈gs)) O R) (hA:AllE d gs A):A.length=(prodK d R d).length:=by
 obtain ⟨h1,h2⟩:=prodK_all (Gr.isG hg) h;exact Nat.le_antisymm (nodup_le (asc_nodup hA.1) fun x hx=>(h2 x).2 ((hA.2 x).1 hx)) (nodup_le h1 fun x hx=>(hA.2 x).2 ((h2 x).1 hx))
end Go.Proofs.YtdnmmibchbceeaaGreat

namespace Go.Proofs.YtdnmmibchbceeaaGreat
open Go.RowKit
open Go.Proofs
open Go.Proofs.Cm (Gd Gr ap)
attribute [local irreducible] Go.Calls Go.wpList
theorem FP.own {F:Nat→Prop} {W W':World} {v:Value} {x:List Nat} {m:Nat} (h:W'.ownsRow W.heap.size 3 1 v m ((Ma.ofN x).map (Value.int .i64))) (hm:m≤1000000000):FP (Fup F W W') W' v x :=
 Rg.FVals.of (Rg.Vals.of_row h hm) (fun k e=>.inr (h.lt k e))
end Go.Proofs.YtdnmmibchbceeaaGreat

namespace Go.Proofs.Km
open Go Go.RowKit
open Go.ChangeMaps
structure KT (P:Program) (t k e v:TypeId) (n:Nat) (z:Value):Prop where
 ht:P.underlying t=some (.map k v)
 hk:P.underlying k=some (.array n e)
 he:P.underlying e=some (.int .u8)
 hs:∀ w,(sizeOf e).run P w=.ok 1 w
 hz:∀ w,(zeroValue v).run P w=.ok z w
def keyV (l:List UInt8):Value:=.agg (l.map Go.Extern.Stop.cell).toArray
def KMap (w:World) (r:Nat) (m:List (List UInt8 × Value)):Prop :=
 ∃ es clock,w.heap[r]?=some (.map es clock)∧es.toList.map (fun e=>(e.key,e.val))=m.map (fun x=>(keyV x.1,x.2))
theorem KMap.lt {w:World} {r:Nat} {m:List (List UInt8 × Value)} (h:KMap w r m):r<w.heap.size:=by
 obtain ⟨es,c,h1,_⟩:=h; exact (Array.getElem?_eq_some_iff.1 h1).1
theorem KMap.of_block {w w':World} {r:Nat} {m:List (List UInt8 × Value)} (h:KMap w r m) (e:w'.heap[r]?=w.heap[r]?):KMap w' r m:=by
 obtain ⟨es,c,h1,h2⟩:=h; exact ⟨es,c,e.trans h1,h2⟩
theorem KMap.below {w w':World} {r:Nat} {m:List (List UInt8 × Value)} (h:KMap w r m) (hb:Below w.heap.size w w'):KMap w' r m:=h.of_block (hb.block r h.lt)
theorem KMap.grown {w w':World} {r:Nat} {m:List (List UInt8 × Value)} {k:Option Nat} (h:KMap w r m) (hg:w.grownBy w' k) (hne:some r≠k):KMap w' r m:=h.of_block (hg.block r h.lt hne)
theorem KMap.new (w:World):KMap (w.alloc (.map #[] 0)) w.heap.size []:=⟨#[],0,by unfold World.alloc; simp,rfl⟩
def look (m:List (List UInt8 × Value)) (k:List UInt8):Option Value:=(m.find? (fun x=>k == x.1)).map (·.2)
section
variable {P:Program} {t k e v:TypeId} {n:Nat} {z:Value}
theorem check_items (T:KT P t k e v n z) (em:Bool) (xs:List UInt8) (hx:xs.length=n) (w:World):(Instr.checkKey em 10000 k (keyV xs)).run P w=.ok () w:=by
 rw [show (10000:Nat)=9999+1 from rfl,keyV,Instr.checkKey];simp only [Sem.run_bind,run_underlying T.hk,Result.andThen_ok,Std.Legacy.Range.forIn_eq_forIn_range',Std.Legacy.Range.size,Nat.sub_zero,Nat.add_sub_cancel,Nat.div_one]
 have hl:∀ i∈List.range' 0 n 1,i<n:=fun i hi=>by simpa using (List.mem_range'_1.1 hi).2
 generalize List.range' 0 n 1=l at hl ⊢
 induction l with
 | nil=>simp
 | cons i l ih =>
  have hi:i<n:=hl i (by simp)
  have px:(part e (xs.map Go.Extern.Stop.cell).toArray (i*1)).run P w=.ok (Go.Extern.Stop.cell (xs.getD i 0)) w:=by
   simp [part,isAgg,run_underlying T.he,List.getD,List.getElem?_eq_getElem (show i<xs.length by omega)]
  have pc:(Instr.checkKey em 9999 e (Go.Extern.Stop.cell (xs.getD i 0))).run P w=.ok () w:=by
   rw [show (9999:Nat)=9998+1 from rfl,Instr.checkKey];simp [Sem.run_bind,run_underlying T.he,Go.Extern.Stop.cell]
  simp only [List.forIn_cons,Sem.run_bind,T.hs,px,pc,Result.andThen_ok,Sem.run_pure];exact ih fun j hj=>hl j (by simp [hj])
theorem ask_items (T:KT P t k e v n z) (w:World) (kb:List UInt8) (hk:kb.length=n):∀ (es:List MapEntry) (m:List (List UInt8 × Value)) (i:Nat),
  es.map (fun e=>(e.key,e.val))=m.map (fun x=>(keyV x.1,x.2))→(∀ x∈m,x.1.length=n) →
  ∃ r,(Instr.findAsking k (keyV kb) es i).run P w=.ok r w∧r.map (·.2)=look m kb
 | [],m,i,h,_=>by
  obtain rfl:m=[]:=by cases m; rfl; simp at h
  exact ⟨none,by simp [Instr.findAsking],rfl⟩
 | e0 :: es,m,i,h,hm=>by
  cases m with
  | nil=>simp at h
  | cons x m =>
   simp only [List.map_cons,List.cons.injEq,Prod.mk.injEq] at h;obtain ⟨⟨h1,h2⟩,h3⟩:=h;have hxl:=hm x (by simp)
   have pe:(Op.equal k (keyV kb) e0.key).run P w=.ok (kb == x.1) w:=by
    rw [h1,Op.equal,Op.maxDepth,keyV,keyV];exact run_equalIn_bytes w 9998 k e n T.hk T.he T.hs kb x.1 hk hxl
   obtain ⟨r,hr,hr2⟩:=ask_items T w kb hk es m (i+1) h3 (fun y hy=>hm y (by simp [hy]));rw [Instr.findAsking];simp only [Sem.run_bind,pe,Result.andThen_ok]
   cases hq:(kb == x.1)
   ·refine ⟨r,by simpa using hr,?_⟩
    rw [hr2]; simp [look,hq]
   ·refine ⟨some (i,e0.val),by simp,?_⟩
    simp [look,hq,h2]
theorem find_items (T:KT P t k e v n z) (w:World) (kb:List UInt8) (hk:kb.length=n) (es:List MapEntry) (m:List (List UInt8 × Value))
  (h:es.map (fun e=>(e.key,e.val))=m.map (fun x=>(keyV x.1,x.2))) (hm:∀ x∈m,x.1.length=n) :
  ∃ r,(Instr.findKey k (keyV kb) es).run P w=.ok r w∧r.map (·.2)=look m kb:=by
 unfold Instr.findKey;simp only [Sem.run_bind,run_underlying T.hk,Result.andThen_ok]
 cases es with
 | nil =>
  obtain rfl:m=[]:=by cases m; rfl; simp at h
  exact ⟨none,by simp [Instr.findNow],rfl⟩
 | cons e0 es =>
  have:Instr.findNow (.array n e) (keyV kb) (e0 :: es) 0=none:=by simp [Instr.findNow,Instr.sameNow]
  rw [this];exact ask_items T w kb hk _ m 0 h hm
theorem lookup_ok (T:KT P t k e v n z) {w:World} {r:Nat} {m:List (List UInt8 × Value)} (h:KMap w r m) (hm:∀ x∈m,x.1.length=n) (kb:List UInt8) (hk:kb.length=n) :
  (Instr.lookup t (.map (some r)) (keyV kb) true).run P w=.ok (.tuple #[(look m kb).getD z,.bool (look m kb).isSome]) w:=by
 obtain ⟨es,c,h1,h2⟩:=h;obtain ⟨q,hq,hq2⟩:=find_items T w kb hk es.toList m h2 hm
 cases q with
 | none =>
  have:look m kb=none:=by rw [← hq2]; rfl
  simp [Instr.lookup,run_underlying T.ht,MapKept.run_getObj_map h1,check_items T _ kb hk,hq,T.hz,Result.andThen,this]
 | some x =>
  have:look m kb=some x.2:=by rw [← hq2]; rfl
  simp [Instr.lookup,run_underlying T.ht,MapKept.run_getObj_map h1,check_items T _ kb hk,hq,Result.andThen,this]
theorem lookup_no (T:KT P t k e v n z) {w:World} {r:Nat} {m:List (List UInt8 × Value)} (h:KMap w r m) (hm:∀ x∈m,x.1.length=n) (kb:List UInt8) (hk:kb.length=n) :
  (Instr.lookup t (.map (some r)) (keyV kb) false).run P w=.ok ((look m kb).getD z) w:=by
 obtain ⟨es,c,h1,h2⟩:=h;obtain ⟨q,hq,hq2⟩:=find_items T w kb hk es.toList m h2 hm
 cases q with
 | none =>
  have:look m kb=none:=by rw [← hq2]; rfl
  simp [Instr.lookup,run_underlying T.ht,MapKept.run_getObj_map h1,check_items T _ kb hk,hq,T.hz,Result.andThen,this]
 | some x =>
  have:look m kb=some x.2:=by rw [← hq2]; rfl
  simp [Instr.lookup,run_underlying T.ht,MapKept.run_getObj_map h1,check_items T _ kb hk,hq,Result.andThen,this]
theorem update_new (T:KT P t k e v n z) {w:World} {r:Nat} {m:List (List UInt8 × Value)} (h:KMap w r m) (hm:∀ x∈m,x.1.length=n) (kb:List UInt8) (hk:kb.length=n) (hno:look m kb=none) (val:Value) :
  ∃ w',(Instr.mapUpdate t (.map (some r)) (keyV kb) val).run P w=.ok () w'∧KMap w' r (m++[(kb,val)])∧w.grownBy w' (some r):=by
 obtain ⟨es,c,h1,h2⟩:=h;obtain ⟨q,hq,hq2⟩:=find_items T w kb hk es.toList m h2 hm;rw [hno] at hq2
 have:q=none:=by cases q; rfl; simp at hq2
 subst this;refine ⟨setBlock w r (.map (es.push ⟨keyV kb,val,c⟩) (c+1)),?_,⟨_,_,heap_setBlock_same h1 _,?_⟩,⟨rfl,rfl,rfl,by simp [setBlock],fun i _ hi=>heap_setBlock_other h1 _ (fun e=>hi (by rw [e]))⟩⟩
 ·simp [Instr.mapUpdate,run_underlying T.ht,MapKept.run_getObj_map h1,check_items T _ kb hk,hq,MapKept.run_setObj_map _ h1,Result.andThen,setBlock]
 ·simp [h2]
end
end Go.Proofs.Km

namespace Go.Proofs.YtdnmmibchbceeaaGreat
open Go.RowKit
open Go.Proofs
attribute [local irreducible] Go.Calls
def kb (p:List Nat):List UInt8:=(List.range 64).map fun i=>UInt8.ofNat (p.getD i 0)
def GK (d:Nat) (p:List Nat):Prop:=p.length=d∧d≤64∧∀ x∈p,x<256
theorem GK.getD {d:Nat} {p:List Nat} (h:GK d p) (i:Nat):p.getD i 0<256:=by
 by_cases hi:i<p.length
 ·rw [Ma.getD_lt hi]; exact h.2.2 _ (List.getElem_mem hi)
 ·rw [List.getD_eq_getElem?_getD,List.getElem?_eq_none (by omega)]; decide
end Go.Proofs.YtdnmmibchbceeaaGreat

namespace Go.Proofs.YtdnmmibchbceeaaGreat
open Go.RowKit
open Go.Proofs
open Go.Proofs.Ob
attribute [local irreducible] Go.Calls Go.wpList
theorem mkInts (n:Nat) (hn:n≤1000000) (w:World):(Instr.makeSlice 25 (.int .i64 (n:Int)) (.int .i64 (n:Int))).run Tryz.prog w=.ok (.slice (some ⟨w.heap.size,0,none⟩) n n) (w.alloc (.cells (madeCells #[.int .i64 0] n) 3)) :=
 run_make_row' 25 3 (.int .i64 0) 8 Tryz.underlying25 infoInt rfl .i64 .i64 n (by omega) (by omega) w
end Go.Proofs.YtdnmmibchbceeaaGreat

namespace Go.Proofs.YtdnmmibchbceeaaGreat
open Go.RowKit
open Go.Proofs
open Go.Proofs.Ob
open Go.Proofs.Cm (Gd Gr IsChain ap)
attribute [local irreducible] Go.Calls Go.wpList
def szD (O:List (List Nat)) (N:Nat):Nat→Nat
 | 0=>1
 | d+1=>(O.getD (N - (d+1)) []).length*szD O N d
theorem szD_le {O:List (List Nat)} {N:Nat} (hN:N≤12) (h:∀ i,i<N→(O.getD i []).length≤N - i):∀ d,d≤N→szD O N d≤12 ^ d
 | 0,_=>Nat.le_refl _
 | d+1,hd=>by
  have h1:=szD_le hN h d (by omega);have h2:=h (N - (d+1)) (by omega);show _*szD O N d≤12 ^ (d+1);rw [Nat.pow_succ,Nat.mul_comm (12 ^ d) 12];exact Nat.mul_le_mul (by omega) h1
theorem quo_big {n:Nat} (h1:1≤n) (h2:n≤12):(8916100448256:Int)≤Int.tdiv 1000000000000000000 ((n:Nat):Int):=by
 have key:∀ n:Fin 13,1≤n.1→(8916100448256:Int)≤Int.tdiv 1000000000000000000 ((n.1:Nat):Int):=by decide
 exact key ⟨n,by omega⟩ h1
def szF (O:List (List Nat)) (N i:Nat) (j:Nat):Int:=if i≤j then ((szD O N (N - j):Nat):Int) else 0
theorem sz_step {O:List (List Nat)} {N i:Nat} (hi:i<N):∀ t,t<N+1→(if t=i then (((O.getD i []).length*szD O N (N - (i+1)):Nat):Int) else szF O N (i+1) t)=szF O N i t:=fun t _=>by
 unfold szF
 by_cases e:t=i
 ·subst e
  rw [if_pos rfl,if_pos (Nat.le_refl _),show N - t=(N - (t+1))+1 by omega,szD,show N - (N - (t+1)+1)=t by omega]
 ·rw [if_neg e]
  by_cases h:i≤t
  ·rw [if_pos (by omega),if_pos h]
  ·rw [if_neg (by omega),if_neg h]
def SzPost (O:List (List Nat)) (N:Nat) (w:World) (ed:Ending) (w':World):Prop:=∃ g,ed=.returned (.tuple #[.slice (some ⟨g,0,none⟩) (N+1) (N+1),.bool true])∧RwAt w' g (N+1) (szF O N 0)∧w.heap.size≤g∧Below w.heap.size w w'
theorem rkSizes_any {N:Nat} {H:List Nat→Prop} {O:List (List Nat)} {R:List (List (List Nat))} (hn1:1≤N) (hn2:N≤12) (hH:Cm.IsG N H) (hch:IsChain N H O R) {ov rv:Value} {w:World} (h:ChEqR w ov rv (O.map Ma.ofN) (R.map (List.map Ma.ofN))) :
  Calls Tryz.prog 100 #[.agg #[.int .i64 ((N:Nat):Int),ov,rv]] w (SzPost O N w):=by
 obtain ⟨ob,oo,oc,rb,ro,rc,rfl,rfl,-,-⟩:=level_rows hch h (i:=0) hn1;have HH:=ι hH;have HCH:=ι hch;have CE:=ι h;have HN2:=ι hn2;have K:=ι (Below.refl w.heap.size w);have HLE:=ι (fun i hi=>chain_len hH hch (i:=i) hi);have HPO:=ι (fun i (hi:i<N)=>List.length_pos_of_mem ((hch.orb i i hi).2 ⟨Ma.oneN N,⟨hH.one,Cm.Fx.one (by omega)⟩,Cm.ap_one hi⟩));clear h hH hch
 go_enter Tryz.func100,Tryz.ntmps100
 go_upto_region 0 with (fail);refine Rg.wl ?_;have hbx:=box3 w (.int .i64 ((N:Nat):Int)) (.slice (some ⟨ob,oo,none⟩) N oc) (.slice (some ⟨rb,ro,none⟩) N rc);refine Rg.lr 1 (Rg.exec_box _ _ rfl rfl) ?_;go_frame;have hb:=(Below.refl w.heap.size w).alloc (Nat.le_refl _) (.cells #[.int .i64 ((N:Nat):Int),.slice (some ⟨ob,oo,none⟩) N oc,.slice (some ⟨rb,ro,none⟩) N rc] 87);generalize w.alloc (.cells #[.int .i64 ((N:Nat):Int),.slice (some ⟨ob,oo,none⟩) N oc,.slice (some ⟨rb,ro,none⟩) N rc] 87)=w1 at *;replace CE:=ι (CE.out.below hb);replace K:=ι (Rg.acc K.out hb);clear hb;have A0:=ι hbx.1;have A1:=ι hbx.2.1;have A2:=ι hbx.2.2;clear hbx;refine Rg.la 2 (.slice none 0 0) ?_;go_frame;refine Rg.la 3 (.bool false) ?_;go_frame;go_upto_region 1 with (fail);refine Rg.wl ?_;refine Rg.lr 7 (exec_field _ rfl rfl (chF0 _ _)) ?_;go_frame;refine Rg.lr 8 (Rg.exec_load (v:=.int .i64 ((N:Nat):Int)) _ _ rfl ⟨w.heap.size,0,none⟩ rfl (run_loadInt A0.out.cell)) ?_;go_frame
 refine Rg.lr 9 (exec_bin (R:=.int .i64 (((N+1):Nat):Int)) .add _ _ _ rfl rfl rfl (b_add _ (by omega) (by omega))) ?_;go_frame;refine Rg.lr 10 (exec_makeSlice _ _ _ rfl _ _ rfl rfl (mkInts (N+1) (by omega) w1)) ?_;go_frame;refine Rg.la 4 (.slice (some ⟨w1.heap.size,0,none⟩) (N+1) (N+1)) ?_;go_frame;have hrw:=made_rowH w1 (N+1);have hbw:Below w1.heap.size w1 (w1.alloc (.cells (madeCells #[.int .i64 0] (N+1)) 3)):=(Below.refl _ _).alloc (Nat.le_refl _) _;obtain ⟨gb,hgb⟩:∃ b,w1.heap.size=b:=⟨_,rfl⟩;have HGB:=ι (show w1.heap.size≤gb from Nat.le_of_eq hgb);rw [hgb] at hrw ⊢;generalize w1.alloc (.cells (madeCells #[.int .i64 0] (N+1)) 3)=wf at *;have RW:=ι hrw;have KE:=ι hbw;have HWG:=ι (show w.heap.size≤gb from Nat.le_trans K.out.size HGB.out);clear hrw hbw hgb;go_upto_region 2 with (fail);refine Rg.wl ?_;refine Rg.lm 11 (.slice (some ⟨gb,0,none⟩) (N+1) (N+1)) ?_;go_frame
 refine Rg.lr 12 (exec_field _ rfl rfl (chF0 _ _)) ?_;go_frame;refine Rg.lr 13 (Rg.exec_load (v:=.int .i64 ((N:Nat):Int)) _ _ rfl ⟨w.heap.size,0,none⟩ rfl (run_loadInt ((Below.cell (p:=⟨w.heap.size,0,none⟩) KE.out A0.out.lt).trans A0.out.cell))) ?_;go_frame;refine Rg.lr 14 (exec_indexS slInts _ _ rfl gb (0) ((N+1)) (N+1) (N) rfl rfl (Nat.lt_succ_self N)) ?_;go_frame;refine Rg.list_skip none rfl rfl (Rg.exec_store _ _ _ rfl _ rfl _ rfl (run_storeInt 1 (by rw [Nat.zero_add]; exact RW.out.2.1 N (Nat.lt_succ_self N)) (by rw [Nat.zero_add]; exact RW.out.2.2 N))) ?_;go_frame
 have hrw:RwAt (wf.setCell ⟨gb,0+N,none⟩ (.int .i64 1)) gb (N+1) (szF O N N):=by
  rw [Nat.zero_add];refine (RW.out.set N 1 (Nat.lt_succ_self N)).congr fun t ht=>?_;unfold szF
  by_cases e:t=N
  ·subst e; rw [if_pos rfl,if_pos (Nat.le_refl _),Nat.sub_self]; rfl
  ·rw [if_neg e,if_neg (by omega)]
 have hkw:=KE.out.setCell (p:=⟨gb,0+N,none⟩) HGB.out (.int .i64 1);generalize wf.setCell ⟨gb,0+N,none⟩ (.int .i64 1)=wg at *;clear RW KE;have RW:=ι hrw;have KE:=ι hkw;clear hrw hkw;obtain ⟨i0,hi0⟩:∃ i0,Hid (N=i0+1):=⟨N - 1,ι (by omega)⟩;go_upto_region 3 with (fail);refine Rg.wl ?_;refine Rg.lr 15 (exec_field _ rfl rfl (chF0 _ _)) ?_;go_frame;refine Rg.lr 16 (Rg.exec_load (v:=.int .i64 ((N:Nat):Int)) _ _ rfl ⟨w.heap.size,0,none⟩ rfl (run_loadInt ((Below.cell (p:=⟨w.heap.size,0,none⟩) KE.out A0.out.lt).trans A0.out.cell))) ?_;go_frame;refine Rg.lr 17 (exec_bin (R:=.int .i64 (((N:Nat):Int) - 1)) .sub _ _ _ rfl rfl rfl (b_sub _ (by omega) (by omega))) ?_;go_frame;refine Rg.la 5 (.int .i64 (((N:Nat):Int) - 1)) ?_;go_frame;have KX:=KE;clear hi0 i0;go_wp2
 go_loopw [5] (fun iv wr=>∃ i:Nat,iv=.int .i64 (((i:Nat):Int) - 1)∧i≤N∧Hid (RwAt wr gb (N+1) (szF O N i))∧Hid (Below w1.heap.size w1 wr)) (fun iv _=>(intOf iv+1).toNat)
 case atStart=>exact ⟨N,rfl,Nat.le_refl _,RW,KE⟩
 case round =>
  clear RW KE KX;obtain ⟨i,rfl,hi,RW,KE⟩:=hrel;generalize wr=wd at *;have hn12:N≤12:=HN2.out
  cases i with
  | zero =>
   have KT:=ι (show Below w.heap.size w wd from K.out.trans (KE.out.mono K.out.size));go_upto_region 4 with (fail);refine Rg.wl ?_;refine Rg.lm 18 (.int .i64 (((0:Nat):Int) - 1)) ?_;go_frame;refine Rg.lr 19 (exec_bin (R:=.bool false) .geq _ _ _ rfl rfl rfl (b_geq _ Rg.dF)) ?_;go_frame;go_upto_region 10 with (fail);refine Rg.wl ?_;refine Rg.lm 46 (.slice (some ⟨gb,0,none⟩) (N+1) (N+1)) ?_;go_frame;refine Rg.la 2 (.slice (some ⟨gb,0,none⟩) (N+1) (N+1)) ?_;go_frame;refine Rg.la 3 (.bool true) ?_;go_frame;go_wp2
   go_ret2
   exact ⟨gb,rfl,RW.out,HWG.out,KT.out⟩
  | succ i =>
   have HI:=ι (show i<N by omega)
   have hin:i<N:=by omega
   obtain ⟨ob',oo',oc',rb',ro',rc',e1,e2,⟨ua,uc,hco,hoi⟩,-⟩:=level_rows HCH.out CE.out hin
   injection e1 with e1 _ e9
   subst e9
   injection e1 with e1
   injection e1 with e3 e4
   subst e3 e4;clear e2;obtain ⟨n,hn⟩:∃ n:Nat,Hid ((O.getD i []).length=n):=⟨_,ι rfl⟩;have hnle:=HLE.out i hin;have hnpo:=HPO.out i hin;rw [hn.out] at hco hnle hnpo;have CO:=ι hco;obtain ⟨s,hs⟩:∃ s:Nat,Hid (szD O N (N - (i+1))=s):=⟨_,ι rfl⟩
   have hsle:s≤743008370688:=by
    have h5:=szD_le hn12 HLE.out (N - (i+1)) (by omega);rw [hs.out] at h5;have h6:=Nat.pow_le_pow_right (n:=12) (by decide) (show N - (i+1)≤11 by omega)
    have e:(12:Nat) ^ 11=743008370688:=by decide
    omega
   obtain ⟨q,hq⟩:∃ q:Int,Hid (Int.tdiv 1000000000000000000 ((n:Nat):Int)=q):=⟨_,ι rfl⟩
   have hqb:8916100448256≤q:=by rw [← hq.out]; exact quo_big hnpo (by omega)
   have hqt:q≤1000000000000000000:=by rw [← hq.out]; exact Int.tdiv_le_self _ (by decide)
   have HQF:=ι (show decide (((s:Nat):Int) > q)=false from decide_eq_false (by omega));have HQB:=ι (show -9223372036854775808≤q∧q≤9223372036854775807 by omega);have HN0:=ι (show ((n:Nat):Int)≠0 by omega)
   have hpr:n*s≤8916100448256:=by
    have h5:=Nat.mul_le_mul (show n≤12 by omega) hsle;omega
   have HPR:=ι (show ((n:Nat):Int)*((s:Nat):Int)=(((n*s):Nat):Int) by rw [Int.natCast_mul]);have HPB:=ι (show -9223372036854775808≤(((n*s):Nat):Int)∧(((n*s):Nat):Int)≤9223372036854775807 by omega)
   have CSZ:=ι (show CL wd gb (0+(i+1)) (.int .i64 ((s:Nat):Int)) from CL.mk (by
    rw [Nat.zero_add,RW.out.2.1 (i+1) (by omega)];unfold szF
    rw [if_pos (Nat.le_refl _),hs.out]) RW.out.1)
   clear hco hoi hsle hqb hqt hpr;have EI:=ι (show ((((i+1:Nat)):Int) - 1)=((i:Nat):Int) by omega);rw [EI.out];go_upto_region 4 with (fail);refine Rg.wl ?_;refine Rg.lm 18 (.int .i64 ((i:Nat):Int)) ?_;go_frame;refine Rg.lr 19 (exec_bin (R:=.bool true) .geq _ _ _ rfl rfl rfl (b_geq _ Rg.dT)) ?_;go_frame;go_upto_region 6 with (fail);refine Rg.wl ?_;refine Rg.lr 22 (exec_field _ rfl rfl (chF1 _ _)) ?_;go_frame;refine Rg.lr 23 (Rg.exec_load (v:=.slice (some ⟨ob,oo,none⟩) N oc) _ _ rfl ⟨w.heap.size,1,none⟩ rfl (Rg.run_loadSl _ _ Tryz.underlying84 ((Below.cell (p:=⟨w.heap.size,1,none⟩) KE.out A1.out.lt).trans A1.out.cell))) ?_;go_frame;refine Rg.lm 24 (.int .i64 ((i:Nat):Int)) ?_;go_frame;refine Rg.lr 25 (exec_indexS slIntss _ _ rfl ob (oo) (N) oc (i) rfl rfl HI.out) ?_;go_frame;refine Rg.lr 26 (Rg.exec_load (v:=.slice ua n uc) _ _ rfl ⟨ob,oo+i,none⟩ rfl (Rg.run_loadSl _ _ Tryz.underlying25 ((Below.cell (p:=⟨ob,oo+i,none⟩) KE.out CO.out.lt).trans CO.out.cell))) ?_;go_frame
   refine Rg.lr 27 (exec_len _ _ _ rfl Tryz.underlying25 _ _ _ rfl) ?_;go_frame;refine Rg.la 6 (.int .i64 ((n:Nat):Int)) ?_;go_frame;go_upto_region 7 with (fail);have hV0:Below wd.heap.size wd wd.drew:=(Below.refl _ _).drew;replace CSZ:=ι (CSZ.out.below hV0);replace RW:=ι (RW.out.below hV0);replace KE:=ι (Rg.acc KE.out hV0);clear hV0;refine Rg.Any.begin (S:=Rg.Both 7 (fun W=>Below wd.drew.heap.size wd.drew W) (fun W=>Below w1.heap.size w1 W)) mix ?_;generalize wd.drew=w57 at *;have hS:∀ (l:Array Bool) W,Below w57.heap.size w57 W→Below w1.heap.size w1 W→Rg.Both 7 (fun W=>Below w57.heap.size w57 W) (fun W=>Below w1.heap.size w1 W) l W:=fun l W h h2=>⟨.inr h,h2⟩;have hS2:∀ (l:Array Bool) W,l.getD 7 false=true→Below w1.heap.size w1 W→Rg.Both 7 (fun W=>Below w57.heap.size w57 W) (fun W=>Below w1.heap.size w1 W) l W:=fun l W h h2=>⟨.inl h,h2⟩
   have hI:=KE.out;refine Rg.tg 0 7 (.slice (some ⟨gb,0,none⟩) (N+1) (N+1)) 28 rfl rfl (.inl ⟨rfl,fun w _=>Rg.exec_move (v:=.slice (some ⟨gb,0,none⟩) (N+1) (N+1)) _ rfl rfl⟩) (hS _ _ (Below.refl _ _) hI) ?_;go_frame;refine Rg.tg 1 7 (.int .i64 ((i:Nat):Int)) 29 rfl rfl (.inl ⟨rfl,fun w _=>Rg.exec_move (v:=.int .i64 ((i:Nat):Int)) _ rfl rfl⟩) (hS _ _ (Below.refl _ _) hI) ?_;go_frame;refine Rg.tg 2 7 (.int .i64 (((i+1):Nat):Int)) 30 rfl rfl (.inl ⟨rfl,fun w _=>exec_bin (R:=.int .i64 (((i+1):Nat):Int)) .add _ _ _ rfl rfl rfl (b_add _ (by omega) (by omega))⟩) (hS _ _ (Below.refl _ _) hI) ?_;go_frame;refine Rg.tg 3 7 (.pointer (some ⟨gb,0+(i+1),none⟩)) 31 rfl rfl (Rg.yields_index slInts _ _ rfl rfl gb (0) ((N+1)) (N+1) ((i+1)) rfl rfl (by omega)) (hS _ _ (Below.refl _ _) hI) ?_;go_frame;refine Rg.Any.takeT (i:=4) (t:=7) (v:=.int .i64 ((s:Nat):Int)) (some 32) rfl rfl (by kernel_rfl) (by kernel_rfl) (by kernel_rfl) (fun _ _ _ h=>h) rfl (by kernel_rfl) rfl (Rg.yields_cell _ _ rfl rfl ⟨gb,0+(i+1),none⟩ rfl (fun W hW=>run_loadInt ((Below.cell (p:=⟨gb,0+(i+1),none⟩) hW CSZ.out.lt).trans CSZ.out.cell))) (hS _ _ (Below.refl _ _) hI) ?_;go_frame
   refine Rg.tg 5 7 (.int .i64 ((n:Nat):Int)) 33 rfl rfl (.inl ⟨rfl,fun w _=>Rg.exec_move (v:=.int .i64 ((n:Nat):Int)) _ rfl rfl⟩) (hS _ _ (Below.refl _ _) hI) ?_;go_frame;refine Rg.tg 6 7 (.int .i64 q) 34 rfl rfl (.inl ⟨rfl,fun w _=>exec_bin (R:=.int .i64 q) .quo _ _ _ rfl rfl rfl (b_quo _ HN0.out hq.out HQB.out)⟩) (hS _ _ (Below.refl _ _) hI) ?_;go_frame;refine Rg.Any.one (i:=7) (by kernel_rfl) (Rg.Any.run (some 35) rfl rfl rfl (exec_bin (R:=.bool false) .gtr _ _ _ rfl rfl rfl (b_gtr _ HQF.out)) (hS2 _ _ rfl hI) ?_);go_frame;refine Rg.Any.done (by kernel_rfl) ?_ _;replace KE:=ι hI;clear hS2;clear hS hI;go_upto_region 9 with (fail);refine Rg.wl ?_;refine Rg.lm 36 (.slice (some ⟨gb,0,none⟩) (N+1) (N+1)) ?_;go_frame;refine Rg.lm 37 (.int .i64 ((i:Nat):Int)) ?_;go_frame;refine Rg.lm 38 (.int .i64 ((n:Nat):Int)) ?_;go_frame;refine Rg.lm 39 (.slice (some ⟨gb,0,none⟩) (N+1) (N+1)) ?_;go_frame
   refine Rg.lm 40 (.int .i64 ((i:Nat):Int)) ?_;go_frame;refine Rg.lr 41 (exec_bin (R:=.int .i64 (((i+1):Nat):Int)) .add _ _ _ rfl rfl rfl (b_add _ (by omega) (by omega))) ?_;go_frame;refine Rg.lr 42 (exec_indexS slInts _ _ rfl gb (0) ((N+1)) (N+1) ((i+1)) rfl rfl (by omega)) ?_;go_frame;refine Rg.lr 43 (Rg.exec_load (v:=.int .i64 ((s:Nat):Int)) _ _ rfl ⟨gb,0+(i+1),none⟩ rfl (run_loadInt CSZ.out.cell)) ?_;go_frame;refine Rg.lr 44 (exec_bin (R:=.int .i64 (((n*s):Nat):Int)) .mul _ _ _ rfl rfl rfl (b_mul _ HPR.out HPB.out)) ?_;go_frame;refine Rg.lr 45 (exec_indexS slInts _ _ rfl gb (0) ((N+1)) (N+1) (i) rfl rfl (by omega)) ?_;go_frame;refine Rg.list_skip none rfl rfl (Rg.exec_store _ _ _ rfl _ rfl _ rfl (run_storeInt (((n*s):Nat):Int) (by rw [Nat.zero_add]; exact RW.out.2.1 i (by omega)) (by rw [Nat.zero_add]; exact RW.out.2.2 i))) ?_;go_frame
   have RW9:=RW;have hkw:=KE.out.setCell (p:=⟨gb,0+i,none⟩) HGB.out (.int .i64 (((n*s):Nat):Int))
   have hrw:RwAt (w57.setCell ⟨gb,0+i,none⟩ (.int .i64 (((n*s):Nat):Int))) gb (N+1) (szF O N i):=by
    rw [Nat.zero_add];have h5:=sz_step (O:=O) hin;rw [hn.out,hs.out] at h5;exact (RW9.out.set i (((n*s):Nat):Int) (by omega)).congr h5
   generalize w57.setCell ⟨gb,0+i,none⟩ (.int .i64 (((n*s):Nat):Int))=wh at *;have RW2:=ι hrw;have KE2:=ι hkw;clear hrw hkw;go_upto_region 5 with (fail);refine Rg.wl ?_;refine Rg.lm 20 (.int .i64 ((i:Nat):Int)) ?_;go_frame;refine Rg.lr 21 (exec_bin (R:=.int .i64 (((i:Nat):Int) - 1)) .sub _ _ _ rfl rfl rfl (b_sub _ (by omega) (by omega))) ?_;go_frame;refine Rg.la 5 (.int .i64 (((i:Nat):Int) - 1)) ?_;go_frame;go_wp2
   go_roundw
   case rel=>exact ⟨i,rfl,by omega,RW2,KE2⟩
   case measure=>simp [intOf]
end Go.Proofs.YtdnmmibchbceeaaGreat

namespace Go.Proofs.Sm
open Go Go.RowKit
open Go.ChangeMaps
structure ST (P:Program) (t k v:TypeId) (z:Value):Prop where
 ht:P.underlying t=some (.map k v)
 hk:P.underlying k=some .string
 hz:∀ w,(zeroValue v).run P w=.ok z w
def SMap (w:World) (r:Nat) (m:List (ByteArray × Value)):Prop :=
 ∃ es clock,w.heap[r]?=some (.map es clock)∧es.toList.map (fun e=>(e.key,e.val))=m.map (fun x=>(Value.string x.1,x.2))
theorem SMap.lt {w:World} {r:Nat} {m:List (ByteArray × Value)} (h:SMap w r m):r<w.heap.size:=by
 obtain ⟨es,c,h1,_⟩:=h; exact (Array.getElem?_eq_some_iff.1 h1).1
theorem SMap.of_block {w w':World} {r:Nat} {m:List (ByteArray × Value)} (h:SMap w r m) (e:w'.heap[r]?=w.heap[r]?):SMap w' r m:=by
 obtain ⟨es,c,h1,h2⟩:=h; exact ⟨es,c,e.trans h1,h2⟩
theorem SMap.below {w w':World} {r:Nat} {m:List (ByteArray × Value)} (h:SMap w r m) (hb:Below w.heap.size w w'):SMap w' r m:=h.of_block (hb.block r h.lt)
theorem SMap.new (w:World):SMap (w.alloc (.map #[] 0)) w.heap.size []:=⟨#[],0,by unfold World.alloc; simp,rfl⟩
def look (m:List (ByteArray × Value)) (k:ByteArray):Option Value:=(m.find? (fun x=>k == x.1)).map (·.2)
section
variable {P:Program} {t k v:TypeId} {z:Value}
theorem check_str (T:ST P t k v z) (em:Bool) (s:ByteArray) (w:World):(Instr.checkKey em 10000 k (.string s)).run P w=.ok () w:=by
 rw [show (10000:Nat)=9999+1 from rfl,Instr.checkKey];simp [Sem.run_bind,run_underlying T.hk]
theorem find_now (kb:ByteArray):∀ (es:List MapEntry) (m:List (ByteArray × Value)) (i:Nat),es.map (fun e=>(e.key,e.val))=m.map (fun x=>(Value.string x.1,x.2)) →
  ∃ r,Instr.findNow .string (.string kb) es i=some r∧r.map (·.2)=look m kb
 | [],m,i,h=>by
  obtain rfl:m=[]:=by cases m; rfl; simp at h
  exact ⟨none,by simp [Instr.findNow],rfl⟩
 | e0 :: es,m,i,h=>by
  cases m with
  | nil=>simp at h
  | cons x m =>
   simp only [List.map_cons,List.cons.injEq,Prod.mk.injEq] at h;obtain ⟨⟨h1,h2⟩,h3⟩:=h;obtain ⟨r,hr,hr2⟩:=find_now kb es m (i+1) h3;rw [Instr.findNow,h1]
   cases hq:(kb == x.1)
   ·refine ⟨r,by simp [Instr.sameNow,hq,hr],?_⟩
    rw [hr2]; simp [look,hq]
   ·refine ⟨some (i,e0.val),by simp [Instr.sameNow,hq],?_⟩
    simp [look,hq,h2]
theorem find_str (T:ST P t k v z) (w:World) (kb:ByteArray) (es:List MapEntry) (m:List (ByteArray × Value)) (h:es.map (fun e=>(e.key,e.val))=m.map (fun x=>(Value.string x.1,x.2))) :
  ∃ r,(Instr.findKey k (.string kb) es).run P w=.ok r w∧r.map (·.2)=look m kb:=by
 obtain ⟨r,hr,hr2⟩:=find_now kb es m 0 h;refine ⟨r,?_,hr2⟩;unfold Instr.findKey;simp only [Sem.run_bind,run_underlying T.hk,Result.andThen_ok,hr,Sem.run_pure]
theorem lookup_ok (T:ST P t k v z) {w:World} {r:Nat} {m:List (ByteArray × Value)} (h:SMap w r m) (kb:ByteArray) :
  (Instr.lookup t (.map (some r)) (.string kb) true).run P w=.ok (.tuple #[(look m kb).getD z,.bool (look m kb).isSome]) w:=by
 obtain ⟨es,c,h1,h2⟩:=h;obtain ⟨q,hq,hq2⟩:=find_str T w kb es.toList m h2
 cases q with
 | none =>
  have:look m kb=none:=by rw [← hq2]; rfl
  simp [Instr.lookup,run_underlying T.ht,MapKept.run_getObj_map h1,check_str T,hq,T.hz,Result.andThen,this]
 | some x =>
  have:look m kb=some x.2:=by rw [← hq2]; rfl
  simp [Instr.lookup,run_underlying T.ht,MapKept.run_getObj_map h1,check_str T,hq,Result.andThen,this]
theorem lookup_no (T:ST P t k v z) {w:World} {r:Nat} {m:List (ByteArray × Value)} (h:SMap w r m) (kb:ByteArray) :
  (Instr.lookup t (.map (some r)) (.string kb) false).run P w=.ok ((look m kb).getD z) w:=by
 obtain ⟨es,c,h1,h2⟩:=h;obtain ⟨q,hq,hq2⟩:=find_str T w kb es.toList m h2
 cases q with
 | none =>
  have:look m kb=none:=by rw [← hq2]; rfl
  simp [Instr.lookup,run_underlying T.ht,MapKept.run_getObj_map h1,check_str T,hq,T.hz,Result.andThen,this]
 | some x =>
  have:look m kb=some x.2:=by rw [← hq2]; rfl
  simp [Instr.lookup,run_underlying T.ht,MapKept.run_getObj_map h1,check_str T,hq,Result.andThen,this]
theorem update_new (T:ST P t k v z) {w:World} {r:Nat} {m:List (ByteArray × Value)} (h:SMap w r m) (kb:ByteArray) (hno:look m kb=none) (val:Value) :
  ∃ w',(Instr.mapUpdate t (.map (some r)) (.string kb) val).run P w=.ok () w'∧SMap w' r (m++[(kb,val)])∧w.grownBy w' (some r):=by
 obtain ⟨es,c,h1,h2⟩:=h;obtain ⟨q,hq,hq2⟩:=find_str T w kb es.toList m h2;rw [hno] at hq2
 have:q=none:=by cases q; rfl; simp at hq2
 subst this;refine ⟨setBlock w r (.map (es.push ⟨.string kb,val,c⟩) (c+1)),?_,⟨_,_,heap_setBlock_same h1 _,?_⟩,⟨rfl,rfl,rfl,by simp [setBlock],fun i _ hi=>heap_setBlock_other h1 _ (fun e=>hi (by rw [e]))⟩⟩
 ·simp [Instr.mapUpdate,run_underlying T.ht,MapKept.run_getObj_map h1,check_str T,hq,MapKept.run_setObj_map _ h1,Result.andThen,setBlock]
 ·simp [h2]
end
end Go.Proofs.Sm

namespace Go.Proofs.YtdnmmibchbceeaaGreat
open Go.RowKit
open Go.Proofs
open Go.Proofs.Ob
open Go.Proofs.Cm (Gd Gr IsChain ap)
attribute [local irreducible] Go.Calls Go.wpList
theorem fcMul_any (v1 v2:Value) (a c:List Nat) (w:World) (h:Rg.NP w v1 a) (h':Rg.NP w v2 c) (hac:∀ x∈a,x<c.length) (hn:a.length≤1000) (h1:1≤a.length) (h2:1≤c.length) :
  Calls Tryz.prog 44 #[v1,v2] w fun e w'=>∃ v,e=.returned v∧Rg.NPF w w' v (Ma.mulN a c)∧Below w.heap.size w w':=by
 obtain ⟨ad,cap,rfl,hc,_,_,hcell⟩:=h.shape;obtain ⟨b,o,rfl,hb,hr⟩:=hcell (by omega);obtain ⟨ad2,cap2,rfl,hc2,_,_,hcell2⟩:=h'.shape;obtain ⟨b2,o2,rfl,hb2,hr2⟩:=hcell2 (by omega);have Hr:=ι hr;have Hr2:=ι hr2;have Hac:=ι hac;clear hr hcell h hr2 hcell2 h' hac;have hmk:=mkPerm a.length (by omega) w;have hrow:=ι (World.rowIs_made w (.int .i64 0) a.length 3)
 go_enter Tryz.func44,Tryz.ntmps44
 go_wp2;clear hmk
 go_loopw [13] (fun i wr=>∃ k:Nat,k≤a.length∧i=.int .i64 k∧Hid (wr.rowIs w.heap.size 3 a.length (fun j=>.int .i64 (if j<k then ((c.getD (a.getD j 0) 0:Nat):Int) else 0)))∧Below w.heap.size w wr) (fun i _=>a.length - (intOf i).toNat)
 case atStart=>exact ⟨0,by omega,rfl,hrow.out.congr (fun i hi=>by simp),(Below.refl _ _).alloc (Nat.le_refl _) _⟩
 case round =>
  obtain ⟨k,hk,rfl,hs,hbel⟩:=hrel;obtain ⟨hc,hf⟩:=Rg.bcell hbel
  by_cases hlt:k<a.length
  ·have e0:wr.cell? ⟨b,o+k,none⟩=some (.int .i64 ((a[k]:Nat):Int)):=(hc b (o+k) hb).trans (Hr.out k hlt)
   have hak:a[k]<c.length:=Hac.out _ (List.getElem_mem hlt);have hga:a.getD k 0=a[k]:=Ma.getD_lt hlt
   have e1:wr.cell? ⟨b2,o2+a[k],none⟩=some (.int .i64 ((c.getD (a.getD k 0) 0:Nat):Int)):=by
    rw [hga,Ma.getD_lt hak];exact (hc b2 (o2+a[k]) hb2).trans (Hr2.out a[k] hak)
   generalize a[k]=x at *;have Hga:=ι hga;generalize hy:c.getD (a.getD k 0) 0=y at *;have Hy:=ι hy;clear hc hf hga hy;have c1:=hs.out.cell hlt;have f1:=hs.out.frozen k;simp only [Nat.lt_irrefl,if_false] at c1;go_wp2
   go_roundw
   case rel =>
    refine ⟨k+1,by omega,by go_num,?_,hbel.setCell (Nat.le_refl _) _⟩;refine (hs.out.set k _).congr fun i hi=>?_
    by_cases e:i=k
    ·subst e; rw [if_pos rfl,if_pos (by omega),Hy.out]
    ·rw [if_neg e]
     by_cases e2:i<k
     ·rw [if_pos e2,if_pos (by omega)]
     ·rw [if_neg e2,if_neg (by omega)]
   case measure=>simp [intOf]; omega
  ·obtain rfl:k=a.length:=by omega
   go_wp2;go_ret;refine ⟨_,rfl,⟨Rg.NP.of_rowIs hs.out (by rw [Ma.len_mulN]) (by omega) (fun i hi=>?_),Rg.Fresh.mk _ _ _ _⟩,by assumption⟩;rw [Ma.get_mulN];rw [Ma.len_mulN] at hi;rw [if_pos hi,Ma.getD_lt hi]
theorem fcOne_any (n:Nat) (w:World) (hn:n≤1000) :
  Calls Tryz.prog 42 #[.int .i64 n] w fun e w'=>∃ v,e=.returned v∧Rg.NPF w w' v (Ma.oneN n)∧Below w.heap.size w w':=by
 have hmk:=mkPerm n (by omega) w;have hrow:=ι (World.rowIs_made w (.int .i64 0) n 3)
 go_enter Tryz.func42,Tryz.ntmps42
 go_wp2;clear hmk
 go_loopw [9] (fun i wr=>∃ k:Nat,k≤n∧i=.int .i64 k∧Hid (wr.rowIs w.heap.size 3 n (fun j=>.int .i64 (if j<k then (j:Int) else 0)))∧Below w.heap.size w wr) (fun i _=>n - (intOf i).toNat)
 case atStart=>exact ⟨0,by omega,rfl,hrow.out.congr (fun i hi=>by simp),(Below.refl _ _).alloc (Nat.le_refl _) _⟩
 case round =>
  obtain ⟨k,hk,rfl,hs,hbel⟩:=hrel
  by_cases hlt:k<n
  ·have c1:=hs.out.cell hlt
   have f1:=hs.out.frozen k;simp only [Nat.lt_irrefl,if_false] at c1;go_wp2
   go_roundw
   case rel =>
    refine ⟨k+1,by omega,by go_num,?_,hbel.setCell (Nat.le_refl _) _⟩;refine (hs.out.set k _).congr fun i hi=>?_
    by_cases e:i=k
    ·subst e; simp
    ·rw [if_neg e]
     by_cases e2:i<k
     ·rw [if_pos e2,if_pos (by omega)]
     ·rw [if_neg e2,if_neg (by omega)]
   case measure=>simp [intOf]; omega
  ·obtain rfl:k=n:=by omega
   go_wp2;go_ret;refine ⟨_,rfl,⟨Rg.NP.of_rowIs hs.out (by rw [Ma.len_oneN]) (by omega) (fun i hi=>?_),Rg.Fresh.mk _ _ _ _⟩,by assumption⟩;rw [Ma.get_oneN];rw [Ma.len_oneN] at hi;rw [if_pos hi]
theorem fcInv_any (v:Value) (a:List Nat) (w:World) (h:Rg.NP w v a) (ha:Ma.okN a) (hn:a.length≤1000) (h1:1≤a.length) :
  Calls Tryz.prog 45 #[v] w fun e w'=>∃ v,e=.returned v∧Rg.NPF w w' v (Ma.invN a)∧Below w.heap.size w w':=by
 obtain ⟨ad,cap,rfl,hc,_,_,hcell⟩:=h.shape;obtain ⟨b,o,rfl,hb,hr⟩:=hcell (by omega);have Hr:=ι hr;clear hr hcell h;have hmk:=mkPerm a.length (by omega) w;have hrow:=ι (World.rowIs_made w (.int .i64 0) a.length 3)
 go_enter Tryz.func45,Tryz.ntmps45
 go_wp2;clear hmk
 go_loopw [11] (fun i wr=>∃ k:Nat,k≤a.length∧i=.int .i64 k∧Hid (wr.rowIs w.heap.size 3 a.length (fun j=>.int .i64 (if j∈a.take k then ((a.idxOf j:Nat):Int) else 0)))∧Below w.heap.size w wr) (fun i _=>a.length - (intOf i).toNat)
 case atStart=>exact ⟨0,by omega,rfl,hrow.out.congr (fun i hi=>by simp),(Below.refl _ _).alloc (Nat.le_refl _) _⟩
 case round =>
  obtain ⟨k,hk,rfl,hs,hbel⟩:=hrel;obtain ⟨hc,hf⟩:=Rg.bcell hbel
  by_cases hlt:k<a.length
  ·have hlt':k<a.length:=hlt
   have e0:wr.cell? ⟨b,o+k,none⟩=some (.int .i64 ((a[k]:Nat):Int)):=(hc b (o+k) hb).trans (Hr.out k hlt');have hak:a[k]<a.length:=Ma.okN_lt ha hlt';have hix:=Ma.idx_get ha hlt'
   have hmem:∀ i,i∈a.take (k+1)↔(i∈a.take k∨i=a[k]):=fun i=>by rw [List.take_succ_eq_append_getElem hlt',List.mem_append,List.mem_singleton]
   generalize hx:a[k]=x at *;have Hx:=ι hx;have Hix:=ι hix;have Hmem:=ι hmem;clear hx hc hf hix hmem;have c1:=hs.out.cell hak;have f1:=hs.out.frozen x;generalize (Value.int .i64 (if x∈a.take k then ((a.idxOf x:Nat):Int) else 0))=u0 at c1;go_wp2
   go_roundw
   case rel =>
    refine ⟨k+1,by omega,by go_num,?_,hbel.setCell (Nat.le_refl _) _⟩;refine (hs.out.set x _).congr fun i hi=>?_
    by_cases e:i=x
    ·subst e; rw [if_pos rfl,if_pos ((Hmem.out i).2 (.inr rfl)),Hix.out]
    ·rw [if_neg e]
     by_cases e2:i∈a.take k
     ·rw [if_pos e2,if_pos ((Hmem.out i).2 (.inl e2))]
     ·rw [if_neg e2,if_neg (fun e3=>((Hmem.out i).1 e3).elim e2 e)]
   case measure=>simp [intOf]; omega
  ·obtain rfl:k=a.length:=by omega
   go_wp2;go_ret;refine ⟨_,rfl,⟨Rg.NP.of_rowIs hs.out (by rw [Ma.len_invN]) (by omega) (fun i hi=>?_),Rg.Fresh.mk _ _ _ _⟩,by assumption⟩;rw [Ma.get_invN];rw [Ma.len_invN] at hi;rw [List.take_of_length_le (Nat.le_refl _),if_pos (Ma.okN_mem ha hi)]
def keyL (x:List Nat):List UInt8:=x.map UInt8.ofNat
def keyS (x:List Nat):ByteArray:=⟨(keyL x).toArray⟩
theorem keyL_inj {x y:List Nat} (hx:∀ z∈x,z<256) (hy:∀ z∈y,z<256) (h:keyL x=keyL y):x=y:=by
 have key:∀ {x:List Nat},(∀ z∈x,z<256)→(keyL x).map UInt8.toNat=x:=fun {x} hx=>by
  unfold keyL;rw [List.map_map]
  conv=>rhs; rw [← List.map_id x]
  refine List.map_congr_left fun z hz=>?_;simp only [Function.comp,id];have:=hx z hz;simp [UInt8.toNat_ofNat'];omega
 rw [← key hx,← key hy,h]
theorem keyS_inj {x y:List Nat} (hx:∀ z∈x,z<256) (hy:∀ z∈y,z<256) (h:keyS x=keyS y):x=y:=by
 unfold keyS at h
 injection h with h
 exact keyL_inj hx hy (List.toArray_inj h)
structure OwY (B:Nat) (W:World) (v:Value) (l:List UInt8):Prop where
 own:W.ownsRow B 5 1 v l.length (l.map fun z=>Value.int .u8 (z.toNat:Int))
theorem OwY.below {B:Nat} {W W':World} {v:Value} {l:List UInt8} (h:OwY B W v l) (hb:Below W.heap.size W W'):OwY B W' v l:=⟨Rg.row_below h.own hb⟩
theorem OwY.shape {B:Nat} {W:World} {v:Value} {l:List UInt8} (h:OwY B W v l):∃ a c,v=.slice a l.length c:=Rg.row_shape h.own
theorem OwY.nil (B:Nat) (W:World):OwY B W (.slice none 0 0) []:=⟨World.ownsRow_nil _ _ _ _⟩
theorem OwY.push {B:Nat} {W:World} {v:Value} {l:List UInt8} (h:OwY B W v l) (hB:B≤W.heap.size) (x:UInt8) (hn:l.length<1000000) (ty:TypeId) :
  ∃ a c X,(Builtin.append_ #[130,130] ty #[v,.slice (some ⟨W.heap.size,0,none⟩) 1 1]).run Tryz.prog (W.alloc (.cells #[.int .u8 (x.toNat:Int)] 5))=.ok (.slice a (l.length+1) c) X∧OwY B X (.slice a (l.length+1) c) (l++[x])∧(∀ {B':Nat} {W0:World},B'≤B→Below B' W0 W→Below B' W0 X):=by
 have hb:Below W.heap.size W (W.alloc (.cells #[.int .u8 (x.toNat:Int)] 5)):=(Below.refl _ _).alloc (Nat.le_refl _) _;obtain ⟨v',X,r1,r2,r3,r4,a,c,rfl⟩:=app_run (P:=Tryz.prog) slBytes ty (Rg.row_below h.own hb) (Nat.le_trans hB hb.size) W.heap.size 1 (u:=.int .u8 (x.toNat:Int)) (by rw [Rg.cellNew]; rfl) rfl hn;refine ⟨a,c,X,r1,⟨by rw [List.length_append,List.map_append]; exact r2⟩,fun {B' W0} hB' hb0=>?_⟩;exact (hb0.alloc (Nat.le_trans hB' hB) _).grown r3 (Nat.le_trans (Nat.le_trans hB' hB) hb.size) (fun j hj=>Nat.le_trans hB' ((Rg.row_below h.own hb).lt j hj).1)
theorem run_build1y (X:World) (x:UInt8):(Instr.buildSlice 130 1 #[(0,.int .u8 (x.toNat:Int))]).run Tryz.prog X=.ok (.slice (some ⟨X.heap.size,0,none⟩) 1 1) (X.alloc (.cells #[.int .u8 (x.toNat:Int)] 5)):=by
 obtain ⟨i0,hi,hz0,hz1,hz2⟩:=info_parts infoU8;refine run_buildSlice X 130 5 1 _ _ i0 _ Tryz.underlying130 hi hz0 (by rw [hz1]; decide) (by rw [hz1]; decide) ?_;generalize (fun x=>((Value.int IntKind.u8 0).cells)[x % (Value.int IntKind.u8 0).cells.size]!)=f;rw [hz1];have h1:Array.range (1*1)=#[0]:=rfl;simp [Instr.fill,Value.cells,h1]
theorem exec_convBstr {o:Oper} {a:Act} {w:World} (x:Operand) (ho:o.op=.convert 130 9 x) {ad:Addr} {n c:Nat} {l:List UInt8} (hx:a.eval x=.slice (some ad) n c) (hn:n=l.length)
  (hc:∀ j (hj:j<l.length),w.cell? (ad.add j)=some (.int .u8 (l[j].toNat:Int))):(execOp a.eval o).run Tryz.prog w=.ok (.value (.string ⟨l.toArray⟩)) w:=by
 subst hn;have h:=run_convert_bytes_back (P:=Tryz.prog) w 130 9 5 ad c l Tryz.underlying130 Tryz.underlying5 Tryz.underlying9 hc;unfold execOp;simp only [ho,hx,Sem.run_bind,Sem.run_pure,h,Result.andThen_ok]
theorem OwY.cells {B:Nat} {W:World} {v:Value} {l:List UInt8} (h:OwY B W v l) (h1:1≤l.length) (hl:l.length≤1000000000):∃ b o c,v=.slice (some ⟨b,o,none⟩) l.length c∧∀ j (hj:j<l.length),W.cell? ((⟨b,o,none⟩:Addr).add j)=some (.int .u8 (l[j].toNat:Int)):=by
 obtain ⟨a,c,e,_,_,_,h5⟩:=Rg.Vals.of_row h.own hl;obtain ⟨b,o,e4,e5,e6⟩:=h5 (by simp; omega);refine ⟨b,o,c,by rw [e,e4]; simp,fun j hj=>?_⟩;have:=e6 j (by simpa using hj);unfold Addr.add
 split
 ·rename_i h0; subst h0; simpa using this
 ·simpa using this
theorem clKy1 (args:Array Value) (w:World):(callFunc 85 args).run Tryz.prog w=.ok (.enter 85 args) w:=by kernel_rfl
def Ky1P (B:Nat) (l:List UInt8) (x:Nat) (w:World) (ed:Ending) (w':World):Prop:=∃ v,ed=.returned v∧OwY B w' v (l++[UInt8.ofNat x])∧∀ {B':Nat} {W0:World},B'≤B→Below B' W0 w→Below B' W0 w'
theorem key1_any {B:Nat} {v:Value} {l:List UInt8} {x:Nat} {w:World} (h:OwY B w v l) (hB:B≤w.heap.size) (hx:x<256) (hl:l.length<1000) :
  Calls Tryz.prog 85 #[v,.int .i64 ((x:Nat):Int)] w (Ky1P B l x w):=by
 obtain ⟨va,vc,rfl⟩:=h.shape;have OW:=ι h;have HB:=ι hB;have HL:=ι (show l.length<1000000 by omega);obtain ⟨u,rfl⟩:∃ u:UInt8,x=u.toNat:=⟨UInt8.ofNat x,by simp [UInt8.toNat_ofNat']; omega⟩;have HU:=ι (show UInt8.ofNat u.toNat=u by simp);have HXB:=ι (show 0≤((u.toNat:Nat):Int)∧((u.toNat:Nat):Int)<256 by omega);clear h hB
 go_enter Tryz.func85,Tryz.ntmps85
 go_upto_region 0 with (fail);refine Rg.wl ?_;refine Rg.la 4 (.slice none 0 0) ?_;go_frame;go_upto_region 1 with (fail);refine Rg.wl ?_;refine Rg.lm 5 (.slice va l.length vc) ?_;go_frame;refine Rg.lm 6 (.int .i64 ((u.toNat:Nat):Int)) ?_;go_frame;refine Rg.lr 7 (exec_convIU _ rfl rfl HXB.out) ?_;go_frame;refine Rg.lr 8 (Rg.exec_buildSlice _ _ _ rfl (.int .u8 ((u.toNat:Nat):Int)) rfl (run_build1y w _)) ?_;go_frame;obtain ⟨a9,c9,X9,r1,r2,r3⟩:=OW.out.push HB.out u HL.out 130;refine Rg.lr 9 (Rg.exec_append _ _ _ rfl rfl rfl r1) ?_;go_frame;refine Rg.la 4 (.slice a9 (l.length+1) c9) ?_;go_frame;have RR:=ι r2;have R3:=ι (show ∀ (B':Nat) (W0:World),B'≤B→Below B' W0 w→Below B' W0 X9 from fun _ _ h1 h2=>r3 h1 h2);clear r1 r2 r3;go_wp2;go_ret;exact ⟨_,rfl,by rw [HU.out]; exact RR.out,fun h1 h2=>R3.out _ _ h1 h2⟩
theorem exec_fnd2 {o:Oper} {a:Act} {w:World} {x1 x2:Value} (F:FuncId) (f x y:Operand) (tys:Array TypeId) (ho:o.op=.call { callee:=.value f,args:=#[x,y],argTypes:=tys }) (hf:a.eval f=.func (.func F) #[] #[]) (hx:a.eval x=x1) (hy:a.eval y=x2)
  (hF:(callFunc F #[x1,x2]).run Tryz.prog w=.ok (.enter F #[x1,x2]) w):(execOp a.eval o).run Tryz.prog w=.ok (.enter F #[x1,x2]) w:=by
 unfold execOp;simp [ho,hx,hy,hf,resolve,invoke,Deferred.ofValue,hF]
theorem foldB_any {xv:Value} {x:List Nat} {w:World} (h:Rg.NP w xv x) (hl:x.length≤64) (hx:∀ z∈x,z<256) :
  Calls Tryz.prog 84 #[xv,.slice none 0 0,(.func (.func 85) #[] #[])] w fun ed w'=>∃ v,ed=.returned v∧OwY w.heap.size w' v (keyL x)∧Below w.heap.size w w':=by
 obtain ⟨xa,xc,rfl,-⟩:=Rg.NP.shape h;have HX:=ι h;have HB:=ι hx;clear hx
 go_enter Tryz.func84,Tryz.ntmps84
 go_upto_region 0 with (fail);refine Rg.wl ?_;refine Rg.la 6 (.slice none 0 0) ?_;go_frame;go_upto_region 1 with (fail);refine Rg.wl ?_;refine Rg.lm 9 (.slice xa x.length xc) ?_;go_frame;refine Rg.lr 10 (exec_len _ _ _ rfl Tryz.underlying25 _ _ _ rfl) ?_;go_frame;refine Rg.lm 11 (.int .i64 ((0:Nat):Int)) ?_;go_frame;have OW:=ι (show OwY w.heap.size w (.slice none 0 0) (keyL (x.take 0)) from OwY.nil _ _);have K:=ι (Below.refl w.heap.size w);go_wp2
 go_loopw [1,11] (fun vv iv wr=>∃ i:Nat,iv=.int .i64 ((i:Nat):Int)∧i≤x.length∧Hid (OwY w.heap.size wr vv (keyL (x.take i)))∧Hid (Below w.heap.size w wr)) (fun _ iv _=>x.length - (intOf iv).toNat)
 case atStart=>exact ⟨0,rfl,Nat.zero_le _,OW,K⟩
 case round =>
  clear OW K;obtain ⟨i,rfl,hi,OW,K⟩:=hrel;generalize wr=wd at *;obtain ⟨va,vc,rfl⟩:=OW.out.shape
  by_cases hil:i<x.length
  case neg =>
   have HE:=ι (show x.take i=x from List.take_of_length_le (by omega));rw [HE.out] at OW ⊢;go_upto_region 2 with (fail);refine Rg.wl ?_;refine Rg.lr 12 (exec_bin (R:=.bool false) .lss _ _ _ rfl rfl rfl (b_lss _ Rg.dF)) ?_;go_frame;go_upto_region 6 with (fail);refine Rg.wl ?_;refine Rg.lm 20 (.slice va (keyL x).length vc) ?_;go_frame;refine Rg.la 6 (.slice va (keyL x).length vc) ?_;go_frame;go_wp2;go_ret;exact ⟨_,rfl,OW.out,K.out⟩
  case pos =>
   have HIL:=ι hil;obtain ⟨b,o,e1,hb0,hc0⟩:=ints_get (show Rg.Ints w (.slice xa x.length xc) (Ma.ofN x) from HX.out) (k:=i) (by rw [Ma.len_ofN]; exact hil);subst e1;obtain ⟨q,hq⟩:∃ q:Nat,Hid (x[i]'hil=q):=⟨_,ι rfl⟩;rw [Ma.get_ofN,hq.out] at hc0;have CX:=ι ((CL.mk hc0 hb0).below K.out);have HQ:=ι (show q<256 from HB.out q (by rw [← hq.out]; exact List.getElem_mem hil));have HKE:=ι (show keyL (x.take (i+1))=keyL (x.take i)++[UInt8.ofNat q] by unfold keyL; rw [List.take_add_one,List.getElem?_eq_getElem hil,List.map_append,hq.out]; rfl);obtain ⟨kl,hkl⟩:∃ l,Hid (keyL (x.take i)=l):=⟨_,ι rfl⟩;have HKL:=ι (show kl.length<1000 by rw [← hkl.out]; unfold keyL; rw [List.length_map,List.length_take]; omega);rw [hkl.out] at OW HKE ⊢;clear hb0 hc0;go_upto_region 2 with (fail);refine Rg.wl ?_;refine Rg.lr 12 (exec_bin (R:=.bool true) .lss _ _ _ rfl rfl rfl (b_lss _ Rg.dT)) ?_;go_frame
   go_upto_region 3 with (fail);refine Rg.wl ?_;refine Rg.lr 13 (exec_indexS slInts _ _ rfl b (o) (x.length) xc (i) rfl rfl HIL.out) ?_;go_frame;refine Rg.lr 14 (Rg.exec_load (v:=.int .i64 ((q:Nat):Int)) _ _ rfl ⟨b,o+i,none⟩ rfl (run_loadInt CX.out.cell)) ?_;go_frame;refine Rg.la 8 (.int .i64 ((q:Nat):Int)) ?_;go_frame;go_upto_region 4 with (fail);refine Rg.wl ?_;refine Rg.lm 15 ((.func (.func 85) #[] #[])) ?_;go_frame;refine Rg.lm 16 (.slice va kl.length vc) ?_;go_frame;refine Rg.lm 17 (.int .i64 ((q:Nat):Int)) ?_;go_frame;refine Rg.lk 18 (exec_fnd2 85 _ _ _ _ rfl rfl rfl rfl (clKy1 _ _)) ?_;refine (key1_any OW.out K.out.size HQ.out HKL.out).mono ?_;rintro e1 w21 ⟨uv,rfl,huv,hb⟩;have OW2:=ι (show OwY w.heap.size w21 uv (keyL (x.take (i+1))) by rw [HKE.out]; exact huv);have K2:Hid (Below w.heap.size w w21):=ι (hb (Nat.le_refl _) K.out);clear huv;refine ⟨_,rfl,?_⟩
   go_frame;clear hb;refine Rg.la 1 (uv) ?_;go_frame;go_upto_region 5 with (fail);refine Rg.wl ?_;refine Rg.lr 19 (exec_bin (R:=.int .i64 (((i+1):Nat):Int)) .add _ _ _ rfl rfl rfl (b_add _ (by omega) (by omega))) ?_;go_frame;refine Rg.lm 11 (.int .i64 (((i+1):Nat):Int)) ?_;go_frame;go_wp2
   go_roundw
   case rel=>exact ⟨i+1,by go_num,HIL.out,OW2,K2⟩
   case measure=>simp [intOf]; have:=HIL.out; omega
theorem clFdB (args:Array Value) (w:World):(callFunc 84 args).run Tryz.prog w=.ok (.enter 84 args) w:=by kernel_rfl
theorem key_any {xv:Value} {x:List Nat} {w:World} (h:Rg.NP w xv x) (h1:1≤x.length) (hl:x.length≤64) (hx:∀ z∈x,z<256) :
  Calls Tryz.prog 56 #[xv] w fun ed w'=>ed=.returned (.string (keyS x))∧Below w.heap.size w w':=by
 obtain ⟨xa,xc,rfl,-⟩:=Rg.NP.shape h;have HX:=ι h;have HB:=ι hx;have H1:=ι h1;have HLL:=ι (show x.length≤1000000000 by omega);have K:=ι (Below.refl w.heap.size w);clear hx
 go_enter Tryz.func56,Tryz.ntmps56
 go_upto_region 0 with (fail);refine Rg.wl ?_;refine Rg.la 2 (.string ⟨#[]⟩) ?_;go_frame;go_upto_region 1 with (fail);refine Rg.wl ?_;refine Rg.lm 3 (.slice xa x.length xc) ?_;go_frame;refine Rg.lk 4 (exec_fn3 84 _ _ _ _ rfl rfl rfl rfl (clFdB _ _)) ?_;refine (foldB_any HX.out hl HB.out).mono ?_;rintro e1 w1 ⟨kv,rfl,hkv,hb⟩;obtain ⟨kb,ko,kc,rfl,hcells⟩:=hkv.cells (by unfold keyL; rw [List.length_map]; exact H1.out) (by unfold keyL; rw [List.length_map]; exact HLL.out);have HCE:=ι hcells;clear hkv hcells;refine ⟨_,rfl,?_⟩;go_frame;replace HX:=ι (HX.out.below hb);replace K:=ι (Rg.acc K.out hb);clear hb;refine Rg.lr 5 (exec_convBstr (l:=keyL x) _ rfl rfl rfl HCE.out) ?_;go_frame;refine Rg.la 2 ((.string (keyS x))) ?_;go_frame;go_wp2;go_ret;exact ⟨rfl,K.out⟩

def lets (n:Nat):List Int:=(List.range n).flatMap fun (i:Nat)=>[(i:Int)+1,-(i:Int) - 1]
def moves (gs:List (List Nat)):List (List Nat):=gs.flatMap fun s=>[s,Ma.invN s]
theorem lets_succ (n:Nat):lets (n+1)=lets n++[(n:Int)+1,-(n:Int) - 1]:=by
 unfold lets; rw [List.range_succ,List.flatMap_append]; rfl
theorem moves_snoc (gs:List (List Nat)) (s:List Nat):moves (gs++[s])=moves gs++[s,Ma.invN s]:=by
 unfold moves; rw [List.flatMap_append]; rfl
theorem moves_take {gs:List (List Nat)} {k:Nat} (hk:k<gs.length):moves (gs.take (k+1))=(moves (gs.take k)++[gs[k]])++[Ma.invN gs[k]]:=by
 rw [List.take_succ_eq_append_getElem hk,moves_snoc,List.append_assoc]; rfl
theorem len_lets (n:Nat):(lets n).length=2*n:=by
 induction n with
 | zero=>rfl
 | succ n ih=>rw [lets_succ,List.length_append,ih]; simp; omega
theorem len_moves (gs:List (List Nat)):(moves gs).length=2*gs.length:=by
 induction gs with
 | nil=>rfl
 | cons s r ih=>show ([s,Ma.invN s]++moves r).length=_; rw [List.length_append,ih]; simp; omega
structure Two (w0 w:World) (v1 v2:Value) (n:Nat) (l:List Int) (us:List Value) (gs:List (List Nat)):Prop where
 r1:w.ownsRow w0.heap.size 3 1 v1 n (l.map (Value.int .i64))
 r2:w.ownsRow w0.heap.size 30 1 v2 n us
 el:Rg.Elts w us gs
 o1:Rg.Offs us v1.ownBlock
 o2:Rg.Offs us v2.ownBlock
 ap:Rg.Apart v1 v2
 be:Below w0.heap.size w0 w
def mlets (gs:List (List Nat)):List (List Nat × Int):=(moves gs).zip (lets gs.length)
theorem mlets_fst (gs:List (List Nat)):(mlets gs).map (·.1)=moves gs:=by
 unfold mlets;rw [List.map_fst_zip];rw [len_moves,len_lets]; exact Nat.le_refl _
theorem len_mlets (gs:List (List Nat)):(mlets gs).length=2*gs.length:=by
 unfold mlets; rw [List.length_zip,len_moves,len_lets]; simp
theorem Two.step2 {w0 wr w1 w2 w3:World} {v1 v2 v1' v2':Value} {n:Nat} {l:List Int} {us:List Value} {gs:List (List Nat)} {Vs Vb:Value} {s:List Nat} {x y:Int} {t1 t2:TypeId} (h:Two w0 wr v1 v2 n l us gs)
  (hr1:w2.ownsRow w0.heap.size 3 1 v1' (n+2) (l.map (Value.int .i64)++[.int .i64 x,.int .i64 y])) (hb2:Below w0.heap.size w0 w2)
  (hg2:(wr.alloc (.cells #[.int .i64 x,.int .i64 y] t1)).grownBy w2 v1.ownBlock) (ho2:v1'.ownBlock=v1.ownBlock∨v1'.ownBlock=some (wr.heap.size+1))
  (hb1:Below w2.heap.size w2 w1) (hs:Rg.NP w0 Vs s) (hvb:Rg.NPF w2 w1 Vb (Ma.invN s))
  (hr2:w3.ownsRow w0.heap.size 30 1 v2' (n+2) (us++[Vs,Vb])) (hb3:Below w0.heap.size w0 w3)
  (hg3:(w1.alloc (.cells #[Vs,Vb] t2)).grownBy w3 v2.ownBlock) (ho3:v2'.ownBlock=v2.ownBlock∨v2'.ownBlock=some (w1.heap.size+1)) :
  Two w0 w3 v1' v2' (n+2) (l++[x,y]) (us++[Vs,Vb]) (gs++[s]++[Ma.invN s]):=by
 have A1:Rg.Apart v1' v2:=h.ap.grow h.r2 ho2 (Nat.le_succ _);have ba1:Below wr.heap.size wr (wr.alloc (.cells #[.int .i64 x,.int .i64 y] t1)):=(Below.refl _ _).alloc (Nat.le_refl _) _;have ba2:Below w1.heap.size w1 (w1.alloc (.cells #[Vs,Vb] t2)):=(Below.refl _ _).alloc (Nat.le_refl _) _;have hr2':=A1.symm;have nVs1:Rg.NP w1 Vs s:=hs.below (Rg.acc hb2 hb1);have hr2w:w2.ownsRow w0.heap.size 30 1 v2 n us:=h.ap.keep (h.r2.alloc _) hg2;have lt1:∀ b,v1'.ownBlock=some b→w0.heap.size≤b:=fun b e=>(hr1.lt b e).1;have lt2:∀ b,v2.ownBlock=some b→w0.heap.size≤b:=fun b e=>(h.r2.lt b e).1;have up1:∀ b,v1'.ownBlock=some b→b<w2.heap.size:=fun b e=>(hr1.lt b e).2;have up2:∀ b,v2.ownBlock=some b→b<w2.heap.size:=fun b e=>(hr2w.lt b e).2;have e2:=(h.el.below ba1).grown h.o1 hg2;have o1:=h.o1.next h.el ho2 (Nat.le_succ _);have e3:Rg.Elts w1 (us++[Vs]++[Vb]) (gs++[s]++[Ma.invN s]):=((e2.below hb1).snoc nVs1).snoc hvb.1
 have o1':Rg.Offs (us++[Vs]++[Vb]) v1'.ownBlock:=(o1.snoc (Rg.Off.old hs (Nat.le_refl _) lt1)).snoc (Rg.Off.fresh hvb.2 up1);have o2:Rg.Offs (us++[Vs]++[Vb]) v2.ownBlock:=(h.o2.snoc (Rg.Off.old hs (Nat.le_refl _) lt2)).snoc (Rg.Off.fresh hvb.2 up2);have e4:=(e3.below ba2).grown o2 hg3;have o2':=o2.next e3 ho3 (Nat.le_succ _);rw [List.append_assoc us] at e4 o1' o2';have hA2:Rg.Apart v2' v1':=A1.symm.grow (Rg.row_below hr1 hb1) ho3 (Nat.le_succ _);exact ⟨by rw [List.map_append]; exact A1.symm.keep ((Rg.row_below hr1 hb1).alloc _) hg3,hr2,e4,o1',o2',hA2.symm,hb3⟩
theorem fcLetters_any (gv:Value) (d:Nat) (gs:List (List Nat)) (w:World) (h:Rg.NRows w gv gs) (hg:GG d gs) (h1:1≤d) (h2:d≤64) (hl:gs.length≤1000) (D:Int) :
  Calls Tryz.prog 79 #[.agg #[.int .i64 D,gv]] w fun e w'=>∃ v1 v2,e=.returned (.tuple #[v1,v2])∧Rg.Ints w' v1 (lets gs.length)∧Rg.NRows w' v2 (moves gs)∧Below w.heap.size w w':=by
 obtain ⟨ad,cap,rfl,hc,hm,_,hcell⟩:=h.shape;have Hr:=ι hcell;clear hcell h
 go_enter Tryz.func79,Tryz.ntmps79
 go_wp2
 go_loopw [4,5,11] (fun v1 v2 i wr=>∃ k:Nat,k≤gs.length∧i=.int .i64 k∧Hid (∃ us,Two w wr v1 v2 (2*k) (lets k) us (moves (gs.take k)))) (fun _ _ i _=>gs.length - (intOf i).toNat)
 case atStart=>exact ⟨0,by omega,rfl,[],World.ownsRow_nil _ _ _ _,World.ownsRow_nil _ _ _ _,Rg.Elts.nil _,Rg.Offs.nil _,Rg.Offs.nil _,Rg.Apart.nil _,(Below.refl _ _).alloc (Nat.le_refl _) _⟩
 case round =>
  obtain ⟨k,hk,rfl,hs⟩:=hrel;obtain ⟨us,hus⟩:=hs.out;have Hs:=ι hus;clear hus hs
  by_cases hlt:k<gs.length
  ·obtain ⟨b,o,rfl,hb,hr⟩:=Hr.out (by omega)
   obtain ⟨u,eu,hu⟩:=hr k hlt;have e0:wr.cell? ⟨b,o+k,none⟩=some u:=(Hs.out.be.cell (p:=⟨b,o+k,none⟩) hb).trans eu;have hu':=hu.below Hs.out.be;obtain ⟨hgo,hgd⟩:=hg _ (List.getElem_mem hlt);have hmv:=moves_take hlt;generalize gs[k]=s at hu hu' hgo hgd hmv;obtain ⟨n0,a0,c0,hn0,rfl,hl0⟩:=hu'.len;have Hmv:=ι hmv;have Hu:=ι hu';have Hu0:=ι hu;have Hgd:=ι hgd;clear hmv eu hu hr hu' hgd hn0 hl0
   go_wp2_with (first | (at_builtin; refine Rg.app2 rfl _ _ 25 rfl slInts Hs.out.r1 Hs.out.be _ _ (by rfl) (by rfl) rfl rfl (by omega) ?_; intro v1' w2 hr1 hb2 hg2 ho2 hsh2) | (go_at_call 45; refine (fcInv_any _ s _ (Hu0.out.below hb2) hgo (by rw [Hgd.out]; omega) (by rw [Hgd.out]; exact h1)).mono ?_; rintro e w1 ⟨vb,rfl,hvb,hb1⟩; obtain ⟨nb,ab,cb,hnb,rfl,hlb⟩:=hvb.1.len; clear hnb hlb; have Hvb:=ι hvb; clear hvb) | (at_builtin; refine Rg.app2 rfl _ _ 22 rfl slPerms (Rg.row_below (Hs.out.ap.keep (Hs.out.r2.alloc _) hg2) hb1) (Rg.acc hb2 hb1) _ _ (by rfl) (by rfl) rfl rfl (by omega) ?_; intro v2' w3 hr2 hb3 hg3 ho3 hsh3))
   go_roundw
   case rel=>exact ⟨k+1,by omega,by go_num,_,by rw [lets_succ,Hmv.out]; exact Hs.out.step2 hr1 hb2 hg2 ho2 hb1 Hu0.out Hvb.out hr2 hb3 hg3 ho3⟩
   case measure=>simp [intOf]; omega
  ·obtain rfl:k=gs.length:=by omega
   go_wp2
   go_ret2
   have hT:=Hs.out;rw [List.take_length] at hT;exact ⟨_,_,rfl,Rg.Ints.of_row hT.r1 (by omega),hT.el.rows (Rg.Vals.of_row hT.r2 (by omega)),hT.be⟩
theorem exec_nilFw {o:Oper} {a:Act} {w:World} {ad:Addr} {n c:Nat} (x y:Operand) (ho:o.op=.binOp .eql 26 x y 26) (hx:a.eval x=.slice (some ad) n c) (hy:a.eval y=.slice none 0 0):(execOp a.eval o).run Tryz.prog w=.ok (.value (.bool false)) w:=by
 have h1:(binOp .eql 26 (.slice (some ad) n c) (.slice none 0 0)).run Tryz.prog w=.ok (.bool false) w:=by kernel_rfl
 have hg:(eqGuard .eql 26 x y (.slice (some ad) n c) (.slice none 0 0)).run Tryz.prog w=.ok () w:=by
  simp [eqGuard]
 unfold execOp;simp only [ho,hx,hy,Sem.run_bind,Sem.run_pure,hg,h1,Result.andThen_ok]
theorem CloneW_any (v:Value) (l:List Int) (w:World) (h:Rg.Ints w v l) (hsh:∃ b o c,v=.slice (some ⟨b,o,none⟩) l.length c) (hl:l.length≤1000000) :
  Calls Tryz.prog 80 #[v] w fun e w'=>∃ v',e=.returned v'∧w'.ownsRow w.heap.size 3 1 v' l.length (l.map (Value.int .i64))∧Below w.heap.size w w':=by
 obtain ⟨b,o,lc,rfl⟩:=hsh;have HI:=ι h;have K:=ι (Below.refl w.heap.size w);clear h
 go_enter Tryz.func80,Tryz.ntmps80
 go_upto_region 1 with (fail);refine Rg.wl ?_;refine Rg.lm 3 (.slice (some ⟨b,o,none⟩) l.length lc) ?_;go_frame;refine Rg.lr 4 (exec_nilFw _ _ rfl rfl rfl) ?_;go_frame;go_upto_region 3 with (fail);refine Rg.wl ?_;have hnew:=Own0.new (B:=w.heap.size) w (Nat.le_refl _);refine Rg.lr 5 (Rg.exec_build0 slWord rfl w) ?_;go_frame;have hb:=(Below.refl w.heap.size w).alloc (Nat.le_refl _) (.cells #[] 3);generalize w.alloc (.cells #[] 3)=w1 at *;replace HI:=ι (HI.out.below hb);replace K:=ι (Rg.acc K.out hb);clear hb;have FO:=ι hnew;refine Rg.lm 6 (.slice (some ⟨b,o,none⟩) l.length lc) ?_;go_frame;obtain ⟨v5,X5,r1,r2,r3⟩:=Rg.appL_run (P:=Tryz.prog) slWord 26 FO.out.1 K.out.size HI.out ints_cells (by rw [List.length_map]; omega);refine Rg.lr 7 (Rg.exec_append _ _ _ rfl rfl rfl r1) ?_;go_frame;refine Rg.la 2 (v5) ?_;go_frame;rw [List.length_map,Nat.zero_add,List.nil_append] at r2
 have R2:=ι r2;have K5:=ι (K.out.grown r3 K.out.size (fun j hj=>(FO.out.1.lt j hj).1));clear r1 r2 r3 FO;go_wp2;go_ret;exact ⟨_,rfl,R2.out,K5.out⟩

abbrev BSt:=List (List Nat) × List (List Int)
def bfStep (x:List Nat) (wd:List Int) (st:BSt) (y:List Nat × Int):BSt:=if Ma.mulN x y.1∈st.1 then st else (st.1++[Ma.mulN x y.1],st.2++[wd++[y.2]])
def bfRow (ml:List (List Nat × Int)) (st:BSt) (i:Nat):BSt:=ml.foldl (bfStep (st.1.getD i []) (st.2.getD i [])) st
def bfs (ml:List (List Nat × Int)) (N:Nat):Nat→BSt
 | 0=>([Ma.oneN N],[[]])
 | i+1=>if i<(bfs ml N i).1.length then bfRow ml (bfs ml N i) i else bfs ml N i
structure BI (N:Nat) (st:BSt):Prop where
 nd:st.1.Nodup
 gd:∀ x∈st.1,Gd N x
 ln:st.2.length=st.1.length
 wl:∀ u∈st.2,u.length≤st.1.length
theorem BI.zero (N:Nat):BI N ([Ma.oneN N],[[]]):=⟨by simp,fun x hx=>by rw [List.mem_singleton] at hx; rw [hx]; exact Cm.gd_one N,rfl,fun u hu=>by rw [List.mem_singleton] at hu; rw [hu]; exact Nat.zero_le _⟩
theorem BI.step {N:Nat} {st:BSt} (h:BI N st) {x:List Nat} {wd:List Int} (hx:Gd N x) (hw:wd.length≤st.1.length) {y:List Nat × Int} (hy:Gd N y.1):BI N (bfStep x wd st y):=by
 unfold bfStep
 split
 ·exact h
 ·rename_i hn
  refine ⟨List.nodup_append.2 ⟨h.nd,by simp,fun a ha b hb=>by rw [List.mem_singleton] at hb; rw [hb]; exact fun e=>hn (e▸ha)⟩,fun z hz=>?_,by simp [h.ln],fun u hu=>?_⟩
  ·rcases List.mem_append.1 hz with hz | hz
   ·exact h.gd z hz
   ·rw [List.mem_singleton] at hz; rw [hz]; exact Cm.gd_mul hx hy
  ·simp only [List.length_append,List.length_singleton]
   rcases List.mem_append.1 hu with hu | hu
   ·have:=h.wl u hu; omega
   ·rw [List.mem_singleton] at hu; rw [hu,List.length_append,List.length_singleton]; omega
def Ext (st st':BSt):Prop:=st.1 <+: st'.1∧st.2 <+: st'.2
theorem Ext.refl (st:BSt):Ext st st:=⟨List.prefix_rfl,List.prefix_rfl⟩
theorem Ext.trans {a b c:BSt} (h:Ext a b) (h':Ext b c):Ext a c:=⟨h.1.trans h'.1,h.2.trans h'.2⟩
theorem Ext.step (x:List Nat) (wd:List Int) (st:BSt) (y:List Nat × Int):Ext st (bfStep x wd st y):=by
 unfold bfStep
 split
 ·exact Ext.refl _
 ·exact ⟨⟨_,rfl⟩,⟨_,rfl⟩⟩
theorem Ext.fold (x:List Nat) (wd:List Int):∀ (l:List (List Nat × Int)) (st:BSt),Ext st (l.foldl (bfStep x wd) st)
 | [],st=>Ext.refl _
 | y :: l,st=>(Ext.step x wd st y).trans (Ext.fold x wd l _)
theorem BI.fold {N:Nat} {x:List Nat} {wd:List Int} (hx:Gd N x):∀ (l:List (List Nat × Int)) (st:BSt),(∀ y∈l,Gd N y.1)→BI N st→wd.length≤st.1.length→BI N (l.foldl (bfStep x wd) st)
 | [],st,_,h,_=>h
 | y :: l,st,hl,h,hw=>BI.fold hx l _ (fun z hz=>hl z (List.mem_cons_of_mem _ hz)) (h.step hx hw (hl y (List.mem_cons_self ..))) (Nat.le_trans hw (Ext.step x wd st y).1.length_le)
theorem BI.row {N:Nat} {ml:List (List Nat × Int)} (hm:∀ y∈ml,Gd N y.1) {st:BSt} (h:BI N st) {i:Nat} (hi:i<st.1.length):BI N (bfRow ml st i):=by
 have e1:st.1.getD i []=st.1[i]:=by simp [List.getD_eq_getElem?_getD,List.getElem?_eq_getElem hi]
 have hi2:i<st.2.length:=by rw [h.ln]; exact hi
 have e2:st.2.getD i []=st.2[i]:=by simp [List.getD_eq_getElem?_getD,List.getElem?_eq_getElem hi2]
 unfold bfRow;rw [e1,e2];exact BI.fold (h.gd _ (List.getElem_mem hi)) ml st hm h (h.wl _ (List.getElem_mem hi2))
theorem bfs_BI {N:Nat} {ml:List (List Nat × Int)} (hm:∀ y∈ml,Gd N y.1):∀ i,BI N (bfs ml N i)
 | 0=>BI.zero N
 | i+1=>by
  unfold bfs
  split
  ·rename_i h; exact (bfs_BI hm i).row hm h
  ·exact bfs_BI hm i
def bfP (ml:List (List Nat × Int)) (N i k:Nat):BSt:=(ml.take k).foldl (bfStep ((bfs ml N i).1.getD i []) ((bfs ml N i).2.getD i [])) (bfs ml N i)
theorem bfP_zero (ml:List (List Nat × Int)) (N i:Nat):bfP ml N i 0=bfs ml N i:=rfl
theorem bfP_succ {ml:List (List Nat × Int)} {N i k:Nat} (hk:k<ml.length):bfP ml N i (k+1)=bfStep ((bfs ml N i).1.getD i []) ((bfs ml N i).2.getD i []) (bfP ml N i k) ml[k]:=by
 unfold bfP;rw [List.take_succ_eq_append_getElem hk,List.foldl_append]; rfl
theorem bfP_full {ml:List (List Nat × Int)} {N i:Nat} (hi:i<(bfs ml N i).1.length):bfP ml N i ml.length=bfs ml N (i+1):=by
 show _=if i<(bfs ml N i).1.length then bfRow ml (bfs ml N i) i else bfs ml N i;rw [if_pos hi]; unfold bfP bfRow; rw [List.take_length]
theorem bfP_ext (ml:List (List Nat × Int)) (N i k:Nat):Ext (bfs ml N i) (bfP ml N i k):=Ext.fold _ _ _ _
theorem bfP_ext2 (ml:List (List Nat × Int)) (N i k:Nat):Ext (bfP ml N i k) (bfP ml N i ml.length):=by
 have e:bfP ml N i ml.length=(ml.drop k).foldl (bfStep ((bfs ml N i).1.getD i []) ((bfs ml N i).2.getD i [])) (bfP ml N i k):=by
  unfold bfP;rw [List.take_length,← List.foldl_append,List.take_append_drop]
 rw [e];exact Ext.fold _ _ _ _
theorem bfP_BI {N:Nat} {ml:List (List Nat × Int)} (hm:∀ y∈ml,Gd N y.1) {i:Nat} (hi:i<(bfs ml N i).1.length) (k:Nat):BI N (bfP ml N i k) :=
 BI.row (ml:=ml.take k) (fun y hy=>hm y (List.mem_of_mem_take hy)) (bfs_BI hm i) hi
def BfE (ml:List (List Nat × Int)) (N:Nat) (st:BSt):Prop:=∃ i,bfs ml N i=st∧i=st.1.length
theorem bfs_stop {ml:List (List Nat × Int)} {N i:Nat} (h:(bfs ml N i).1.length≤i):∀ j,i≤j→bfs ml N j=bfs ml N i:=by
 intro j hj
 induction j with
 | zero =>
  have e:i=0:=by omega
  rw [e]
 | succ j ih =>
  by_cases e:i=j+1
  ·rw [e]
  ·have ih:=ih (by omega)
   show (if j<(bfs ml N j).1.length then bfRow ml (bfs ml N j) j else bfs ml N j)=_;rw [ih,if_neg (by omega)]
theorem BfE.uniq {ml:List (List Nat × Int)} {N:Nat} {a b:BSt} (h:BfE ml N a) (h':BfE ml N b):a=b:=by
 obtain ⟨i,rfl,hi⟩:=h;obtain ⟨j,rfl,hj⟩:=h'
 rcases Nat.le_total i j with e | e
 ·exact (bfs_stop (by omega) j e).symm
 ·exact bfs_stop (by omega) i e
def GF (W:World) (mb:Nat) (fv:Value) (k:Nat):Prop:=k<W.heap.size∧k≠mb∧fv.ownBlock≠some k
theorem GF.up {W W':World} {mb:Nat} {fv:Value} {k:Nat} (h:GF W mb fv k) (hs:W.heap.size≤W'.heap.size):GF W' mb fv k:=⟨Nat.lt_of_lt_of_le h.1 hs,h.2⟩
structure EX (W:World) (mb:Nat) (fv:Value) (v:Value) (l:List Int):Prop where
 fi:Rg.FI (GF W mb fv) W v l
theorem EX.kp {W W':World} {mb:Nat} {fv v:Value} {l:List Int} {M:Nat→Prop} (h:EX W mb fv v l) (hk:Rg.Kp M W W') (hM:∀ k,M k→k=mb∨fv.ownBlock=some k):EX W' mb fv v l :=
 ⟨Rg.FI.mono (Rg.FI.kp h.fi hk (fun k g e=>(hM k e).elim g.2.1 g.2.2)) (fun k g=>g.up hk.size)⟩
theorem EX.below {W W':World} {mb:Nat} {fv v:Value} {l:List Int} (h:EX W mb fv v l) (hb:Below W.heap.size W W'):EX W' mb fv v l:=h.kp (M:=fun _=>False) (Rg.Kp.of_below hb) (fun _=>False.elim)
theorem EX.ints {W:World} {mb:Nat} {fv v:Value} {l:List Int} (h:EX W mb fv v l):Rg.Ints W v l:=h.fi.ints
structure BfM (B:Nat) (W:World) (fv:Value) (mb:Nat) (Fd Ks:List (List Nat)) (vs:List Value) (Wd:List (List Int)):Prop where
 row:∃ us,W.ownsRow B 30 1 fv Fd.length us∧Rg.FElts (GF W mb fv) W us (Fd.map Ma.ofN)
 map:Sm.SMap W mb ((Ks.map keyS).zip vs)
 els:Rg.FElts (GF W mb fv) W vs Wd
 off:fv.ownBlock≠some mb
 sz:B≤W.heap.size
 mlo:B≤mb
 ln:Wd.length=Ks.length
 sh:∀ v∈vs,∃ b o n c,v=.slice (some ⟨b,o,none⟩) n c
theorem BfM.below {B:Nat} {W W':World} {fv:Value} {mb:Nat} {Fd Ks:List (List Nat)} {vs:List Value} {Wd:List (List Int)} (h:BfM B W fv mb Fd Ks vs Wd) (hb:Below W.heap.size W W'):BfM B W' fv mb Fd Ks vs Wd:=by
 obtain ⟨us,h1,h2⟩:=h.row;have hk:Rg.Kp (fun _=>False) W W':=Rg.Kp.of_below hb;exact ⟨⟨us,Rg.row_below h1 hb,(h2.kp hk (fun _ _=>id)).mono fun k g=>g.up hb.size⟩,h.map.below hb,(h.els.kp hk (fun _ _=>id)).mono fun k g=>g.up hb.size,h.off,Nat.le_trans h.sz hb.size,h.mlo,h.ln,h.sh⟩
theorem BfM.shape {B:Nat} {W:World} {fv:Value} {mb:Nat} {Fd Ks:List (List Nat)} {vs:List Value} {Wd:List (List Int)} (h:BfM B W fv mb Fd Ks vs Wd):∃ a c,fv=.slice a Fd.length c:=by
 obtain ⟨us,h1,h2⟩:=h.row;exact Rg.row_shape h1
theorem BfM.vl {B:Nat} {W:World} {fv:Value} {mb:Nat} {Fd Ks:List (List Nat)} {vs:List Value} {Wd:List (List Int)} (h:BfM B W fv mb Fd Ks vs Wd):vs.length=Ks.length:=h.els.1.trans h.ln
theorem BfM.at {B:Nat} {W:World} {fv:Value} {mb:Nat} {Fd Ks:List (List Nat)} {vs:List Value} {Wd:List (List Int)} (h:BfM B W fv mb Fd Ks vs Wd) (hl:Fd.length≤1000000) {i:Nat} {x:List Nat} (hi:i<Fd.length) (hx:Fd[i]?=some x) :
  ∃ b o c u,fv=.slice (some ⟨b,o,none⟩) Fd.length c∧CL W b (o+i) u∧EX W mb fv u (Ma.ofN x):=by
 obtain ⟨us,h1,h2⟩:=h.row;obtain ⟨a,c,e,h3,h4,h5,h6⟩:=Rg.Vals.of_row h1 (by omega)
 have hul:us.length=Fd.length:=by have:=h2.1; simpa using this
 obtain ⟨b,o,e1,e2,e3⟩:=h6 (by omega)
 have hiu:i<us.length:=by omega
 refine ⟨b,o,c,us[i],by rw [e,e1,hul],⟨e3 i hiu,e2⟩,⟨?_⟩⟩;have:=h2.2 i hiu (by simpa using hi);rw [List.getElem_map] at this;rw [List.getElem?_eq_getElem hi] at hx
 injection hx with hx
 rw [← hx]; exact this
theorem BfM.ins {B:Nat} {W:World} {fv:Value} {mb:Nat} {Fd Ks:List (List Nat)} {vs:List Value} {Wd:List (List Int)} {t k v:TypeId} {z:Value} (T:Sm.ST Tryz.prog t k v z) (h:BfM B W fv mb Fd Ks vs Wd) {x:List Nat} {wv:Value} {wd:List Int} (hw:EX W mb fv wv wd) (hs:∃ b o n c,wv=.slice (some ⟨b,o,none⟩) n c)
  (hno:Sm.look ((Ks.map keyS).zip vs) (keyS x)=none) :
  ∃ W',(Instr.mapUpdate t (.map (some mb)) (.string (keyS x)) wv).run Tryz.prog W=.ok () W'∧BfM B W' fv mb Fd (Ks++[x]) (vs++[wv]) (Wd++[wd])∧Rg.Kp (fun k=>k=mb) W W':=by
 obtain ⟨us,h1,h2⟩:=h.row;obtain ⟨W',r1,r2,r3⟩:=Sm.update_new T h.map (keyS x) hno wv;have hk:Rg.Kp (fun k=>k=mb) W W':=Rg.Kp.of_grown r3 (fun k e=>(Option.some.inj e).symm);refine ⟨W',r1,⟨⟨us,rowKp h1 hk (fun k e e2=>h.off (by rw [e2,e])),(h2.kp hk (fun k g e=>g.2.1 e)).mono fun k g=>g.up hk.size⟩,?_,FElts.snoc ((h.els.kp hk (fun k g e=>g.2.1 e)).mono fun k g=>g.up hk.size) (hw.kp hk (fun k e=>.inl e)).fi,h.off,Nat.le_trans h.sz hk.size,h.mlo,by simp [h.ln],fun v hv=>?_⟩,hk⟩
 ·rw [List.map_append,List.zip_append (by rw [List.length_map,h.vl])]
  exact r2
 ·rcases List.mem_append.1 hv with hv | hv
  ·exact h.sh v hv
  ·rw [List.mem_singleton] at hv; rw [hv]; exact hs
theorem BfM.push {B:Nat} {W:World} {fv:Value} {mb:Nat} {Fd Ks:List (List Nat)} {vs:List Value} {Wd:List (List Int)} (h:BfM B W fv mb Fd Ks vs Wd) {x:List Nat} {u:Value} (hu:EX W mb fv u (Ma.ofN x)) (hs:∃ a m c,u=.slice a m c) (hn:Fd.length<1000000) (ty:TypeId) :
  ∃ a c X,(Builtin.append_ #[22,22] ty #[fv,.slice (some ⟨W.heap.size,0,none⟩) 1 1]).run Tryz.prog (W.alloc (.cells #[u] 30))=.ok (.slice a (Fd.length+1) c) X∧BfM B X (.slice a (Fd.length+1) c) mb (Fd++[x]) Ks vs Wd∧(∀ {W0:World},Below B W0 W→Below B W0 X):=by
 obtain ⟨us,h1,h2⟩:=h.row;obtain ⟨a0,m0,c0,rfl⟩:=hs;have hb:Below W.heap.size W (W.alloc (.cells #[.slice a0 m0 c0] 30)):=(Below.refl _ _).alloc (Nat.le_refl _) _;obtain ⟨v',X,r1,r2,r3,r4,a,c,rfl⟩:=app_run (P:=Tryz.prog) slPerms ty (Rg.row_below h1 hb) (Nat.le_trans h.sz hb.size) W.heap.size 1 (u:=.slice a0 m0 c0) (by rw [Rg.cellNew]; rfl) rfl hn;have hk:Rg.Kp (fun k=>fv.ownBlock=some k) W X:=Rg.Kp.trans (M:=fun k=>fv.ownBlock=some k) ((Rg.Kp.of_below hb).weak fun _=>False.elim) (Rg.Kp.of_grown r3 fun _ e=>e) (fun _ _ e=>e)
 have hmono:∀ k,GF W mb fv k→GF X mb (.slice a (Fd.length+1) c) k:=fun k g=>by
  refine ⟨Nat.lt_of_lt_of_le g.1 hk.size,g.2.1,fun e=>?_⟩
  rcases r4 with r4 | r4
  ·exact g.2.2 (by rw [← r4]; exact e)
  ·rw [r4] at e
   injection e with e
   have e2:(W.alloc (.cells #[.slice a0 m0 c0] 30)).heap.size=W.heap.size+1:=by simp
   have:=g.1;omega
 have hmb:(Value.slice a (Fd.length+1) c).ownBlock≠some mb:=fun e=>by
  rcases r4 with r4 | r4
  ·exact h.off (by rw [← r4]; exact e)
  ·rw [r4] at e
   injection e with e
   have e2:(W.alloc (.cells #[.slice a0 m0 c0] 30)).heap.size=W.heap.size+1:=by simp
   have:=h.map.lt;omega
 refine ⟨a,c,X,r1,⟨⟨us++[.slice a0 m0 c0],by rw [List.length_append]; exact r2,by rw [List.map_append]; exact (FElts.snoc (h2.kp hk (fun k g e=>g.2.2 e)) (Rg.FI.kp hu.fi hk (fun k g e=>g.2.2 e))).mono hmono⟩,h.map.of_block (hk.block mb h.map.lt h.off),(h.els.kp hk (fun k g e=>g.2.2 e)).mono hmono,hmb,Nat.le_trans h.sz hk.size,h.mlo,h.ln,h.sh⟩,fun {W0} hb0=>(hb0.alloc h.sz _).grown r3 (Nat.le_trans h.sz hb.size) (fun j hj=>(h1.lt j hj).1)⟩
theorem ba_beq (a b:ByteArray):(a == b)=true↔a=b:=by
 cases a with | mk x=>cases b with | mk y =>
 constructor
 ·intro h
  have h:(x == y)=true:=h;rw [eq_of_beq h]
 ·intro h
  injection h with h
  subst h;show (x == x)=true;simp
theorem look_none {Ks:List (List Nat)} {vs:List Value} {x:List Nat} (hb:∀ y∈Ks,∀ z∈y,z<256) (hx:∀ z∈x,z<256) (h:x∉Ks):Sm.look ((Ks.map keyS).zip vs) (keyS x)=none:=by
 unfold Sm.look;rw [List.find?_eq_none.2]
 ·rfl
 ·intro p hp e
  have h1:p.1∈Ks.map keyS:=(List.of_mem_zip hp).1;obtain ⟨y,hy,e2⟩:=List.mem_map.1 h1;have e3:keyS x=p.1:=(ba_beq _ _).1 e;exact h (by rw [keyS_inj hx (hb y hy) (e3.trans e2.symm)]; exact hy)
theorem look_at:∀ {Ks:List (List Nat)} {vs:List Value} {i:Nat} {x:List Nat} {v:Value},Ks.Nodup→(∀ y∈Ks,∀ z∈y,z<256)→Ks[i]?=some x→vs[i]?=some v→Sm.look ((Ks.map keyS).zip vs) (keyS x)=some v
 | [],vs,i,x,v,_,_,h1,_=>by simp at h1
 | y :: Ks,[],i,x,v,_,_,_,h2=>by simp at h2
 | y :: Ks,u :: vs,0,x,v,_,_,h1,h2=>by
  simp only [List.getElem?_cons_zero,Option.some.injEq] at h1 h2;subst h1 h2;have e0:(keyS y == keyS y)=true:=(ba_beq _ _).2 rfl;unfold Sm.look;rw [List.map_cons,List.zip_cons_cons,List.find?_cons,e0]; rfl
 | y :: Ks,u :: vs,i+1,x,v,hn,hb,h1,h2=>by
  simp only [List.getElem?_cons_succ] at h1 h2;have hn:=List.nodup_cons.1 hn;have hxm:x∈Ks:=List.mem_of_getElem? h1;have ih:=look_at hn.2 (fun y hy=>hb y (List.mem_cons_of_mem _ hy)) h1 h2
  have hne:(keyS x == keyS y)=false:=by
   cases e:(keyS x == keyS y)
   ·rfl
   ·have e:=(ba_beq _ _).1 e
    exact absurd hxm (fun _=>hn.1 (keyS_inj (hb x (List.mem_cons_of_mem _ hxm)) (hb y (List.mem_cons_self ..)) e▸hxm))
  unfold Sm.look at ih ⊢;rw [List.map_cons,List.zip_cons_cons,List.find?_cons,hne];exact ih
theorem look_some {Ks:List (List Nat)} {vs:List Value} {x:List Nat} (hn:Ks.Nodup) (hb:∀ y∈Ks,∀ z∈y,z<256) (hl:vs.length=Ks.length) (h:x∈Ks):∃ v,Sm.look ((Ks.map keyS).zip vs) (keyS x)=some v:=by
 obtain ⟨i,hi,e⟩:=List.getElem_of_mem h;exact ⟨vs[i]'(by omega),look_at hn hb (by rw [List.getElem?_eq_getElem hi,e]) (List.getElem?_eq_getElem _)⟩
theorem gd_b {N:Nat} {x:List Nat} (h:Gd N x) (hN:N≤64):∀ z∈x,z<256:=fun z hz=>by have:=gd_mem h hz; omega
theorem mlets_gd {N:Nat} {gs:List (List Nat)} (hg:∀ s∈gs,Gd N s):∀ y∈mlets gs,Gd N y.1:=fun y hy=>by
 have h1:y.1∈moves gs:=by rw [← mlets_fst]; exact List.mem_map_of_mem hy
 unfold moves at h1;obtain ⟨s,hs,h2⟩:=List.mem_flatMap.1 h1;simp only [List.mem_cons,List.not_mem_nil,or_false] at h2
 rcases h2 with h2 | h2
 ·rw [h2]; exact hg s hs
 ·rw [h2]; exact (hg s hs).inv
theorem stWords:Sm.ST Tryz.prog 76 9 26 (.slice none 0 0):=⟨Tryz.underlying76,Tryz.underlying9,fun w=>by kernel_rfl⟩

theorem Bfcl0 (args:Array Value) (w:World):(callFunc 99 args).run Tryz.prog w=.ok (.enter 99 args) w:=by kernel_rfl
theorem Bfcl1 (args:Array Value) (w:World):(callFunc 100 args).run Tryz.prog w=.ok (.enter 100 args) w:=by kernel_rfl
theorem bfs_in {N:Nat} {gs:List (List Nat)}:∀ i,∀ x∈(bfs (mlets gs) N i).1,Cm.Gr N (·∈gs) x
 | 0,x,hx=>by
  have hx:x∈[Ma.oneN N]:=hx;rw [List.mem_singleton] at hx; rw [hx]; exact .one
 | i+1,x,hx=>by
  have ih:=bfs_in (N:=N) (gs:=gs) i;have hx:x∈(if i<(bfs (mlets gs) N i).1.length then bfRow (mlets gs) (bfs (mlets gs) N i) i else bfs (mlets gs) N i).1:=hx
  by_cases h:i<(bfs (mlets gs) N i).1.length
  ·rw [if_pos h] at hx
   unfold bfRow at hx
   have h0:Cm.Gr N (·∈gs) ((bfs (mlets gs) N i).1.getD i []):=by
    rw [List.getD_eq_getElem?_getD,List.getElem?_eq_getElem h];exact ih _ (List.getElem_mem h)
   have key:∀ (l:List (List Nat × Int)) (st:BSt),(∀ y∈l,y.1∈moves gs)→(∀ z∈st.1,Cm.Gr N (·∈gs) z)→∀ {p:List Nat} {wd:List Int},Cm.Gr N (·∈gs) p→∀ z∈(l.foldl (bfStep p wd) st).1,Cm.Gr N (·∈gs) z:=by
    intro l
    induction l with
    | nil=>intro st _ h2 p wd _ z hz; exact h2 z hz
    | cons y l ihl =>
     intro st h1 h2 p wd hp;refine ihl _ (fun z hz=>h1 z (List.mem_cons_of_mem _ hz)) (fun z hz=>?_) hp;unfold bfStep at hz
     split at hz
     ·exact h2 z hz
     ·rcases List.mem_append.1 hz with hz | hz
      ·exact h2 z hz
      ·rw [List.mem_singleton] at hz
       rw [hz];refine .mul _ _ hp ?_;have hm:=h1 y (List.mem_cons_self ..);unfold moves at hm;obtain ⟨s,hs,h3⟩:=List.mem_flatMap.1 hm;simp only [List.mem_cons,List.not_mem_nil,or_false] at h3
       rcases h3 with h3 | h3
       ·rw [h3]; exact .gen s hs
       ·rw [h3]; exact .inv s (.gen s hs)
   exact key (mlets gs) _ (fun y hy=>by rw [← mlets_fst]; exact List.mem_map_of_mem hy) ih h0 x hx
  ·rw [if_neg h] at hx
   exact ih x hx
theorem prodK_sz {N:Nat} {H:List Nat→Prop} {O:List (List Nat)} {R:List (List (List Nat))} (h:IsChain N H O R):∀ i,i≤N→(prodK N R i).length*szD O N (N - i)=szD O N N
 | 0,_=>by
  show ([Ma.oneN N]:List (List Nat)).length*_=_;simp
 | i+1,hi=>by
  have ih:=prodK_sz h i (by omega);show (mulAll (R.getD i []) (prodK N R i)).length*_=_;rw [len_mulAll,h.len i (by omega),← ih];obtain ⟨d,hd⟩:∃ d,N - i=d+1:=⟨N - i - 1,by omega⟩
  have e1:N - (i+1)=d:=by omega
  have e2:N - (d+1)=i:=by omega
  rw [hd,e1];show _=_*((O.getD (N - (d+1)) []).length*szD O N d);rw [e2,Nat.mul_comm (O.getD i []).length,Nat.mul_assoc]
theorem szD_len {N:Nat} {H:List Nat→Prop} {O:List (List Nat)} {R:List (List (List Nat))} (h:IsChain N H O R):(prodK N R N).length=szD O N N:=by
 have:=prodK_sz h N (Nat.le_refl _);rw [Nat.sub_self] at this;rw [← this];show _=_*1;omega
theorem bfs_few {N:Nat} {gs:List (List Nat)} (hg:∀ s∈gs,Gd N s) {O:List (List Nat)} {R:List (List (List Nat))} (h:IsChain N (Cm.Gr N (·∈gs)) O R) (i:Nat):(bfs (mlets gs) N i).1.length≤szD O N N:=by
 rw [← szD_len h];exact nodup_le (bfs_BI (mlets_gd hg) i).nd fun x hx=>((prodK_all (Cm.Gr.isG hg) h).2 x).2 (bfs_in i x hx)
theorem rkSize_any {N:Nat} {gs:List (List Nat)} (hg:∀ s∈gs,Gd N s) {O:List (List Nat)} {R:List (List (List Nat))} (hn1:1≤N) (hn2:N≤12) (hch:IsChain N (Cm.Gr N (·∈gs)) O R) {ov rv:Value} {w:World} (h:ChEqR w ov rv (O.map Ma.ofN) (R.map (List.map Ma.ofN))) :
  Calls Tryz.prog 78 #[.agg #[.int .i64 ((N:Nat):Int),ov,rv]] w fun e w'=>e=.returned (.tuple #[.int .i64 ((szD O N N:Nat):Int),.int .i64 0])∧Below w.heap.size w w':=by
 have hck:chCode ((N:Nat):Int) (O.map Ma.ofN) (R.map (List.map Ma.ofN))=0:=chCode_zero (chain_ok hn1 (by omega) hg hch);obtain ⟨oa,oc,e1,-⟩:=h.1.shape;obtain ⟨ra,rc,e2⟩:=h.2.shape;obtain ⟨on,hon⟩:∃ n,(O.map Ma.ofN).length=n:=⟨_,rfl⟩;obtain ⟨rn,hrn⟩:∃ n,(R.map (List.map Ma.ofN)).length=n:=⟨_,rfl⟩;rw [hon] at e1;rw [hrn] at e2;subst e1 e2;clear hon hrn;have HCK:=ι hck;have HC:=ι h;have HCH:=ι hch;have HG:=ι hg;have K:=ι (Below.refl w.heap.size w);clear h hch hck hg
 go_enter Tryz.func78,Tryz.ntmps78
 go_upto_region 0 with (fail);refine Rg.wl ?_;have hbx:=box3 w (.int .i64 ((N:Nat):Int)) (.slice oa on oc) (.slice ra rn rc);refine Rg.lr 1 (Rg.exec_box _ _ rfl rfl) ?_;go_frame;have hb:=(Below.refl w.heap.size w).alloc (Nat.le_refl _) (.cells #[.int .i64 ((N:Nat):Int),.slice oa on oc,.slice ra rn rc] 87);generalize w.alloc (.cells #[.int .i64 ((N:Nat):Int),.slice oa on oc,.slice ra rn rc] 87)=w1 at *;replace HC:=ι (HC.out.below hb);replace K:=ι (Rg.acc K.out hb);clear hb;have A0:=ι hbx.1;have A1:=ι hbx.2.1;have A2:=ι hbx.2.2;clear hbx;refine Rg.la 2 (.int .i64 ((0:Nat):Int)) ?_;go_frame;refine Rg.la 3 (.int .i64 ((0:Nat):Int)) ?_;go_frame;go_upto_region 1 with (fail);refine Rg.wl ?_;refine Rg.lr 7 (Rg.exec_load (v:=(.agg #[.int .i64 ((N:Nat):Int),.slice oa on oc,.slice ra rn rc])) _ _ rfl ⟨w.heap.size,0,none⟩ rfl (run_loadC3 A0.out.cell A1.out.cell A2.out.cell)) ?_;go_frame
 refine Rg.lk 8 (exec_fn1 99 _ _ rfl rfl (Bfcl0 _ _)) ?_;refine (chCheck_c HC.out).mono ?_;rintro e1 w2 ⟨rfl,hb⟩;rw [HCK.out];refine ⟨_,rfl,?_⟩;go_frame;replace HC:=ι (HC.out.below hb);replace A0:=ι (A0.out.below hb);replace A1:=ι (A1.out.below hb);replace A2:=ι (A2.out.below hb);replace K:=ι (Rg.acc K.out hb);clear hb;refine Rg.la 4 (.int .i64 0) ?_;go_frame;go_upto_region 2 with (fail);refine Rg.wl ?_;refine Rg.lm 9 (.int .i64 0) ?_;go_frame;refine Rg.lr 10 (exec_bin (R:=.bool false) .neq _ _ _ rfl rfl rfl (b_neqB _ (decide_eq_false (by decide)))) ?_;go_frame;go_upto_region 4 with (fail);refine Rg.wl ?_;refine Rg.lr 13 (Rg.exec_load (v:=(.agg #[.int .i64 ((N:Nat):Int),.slice oa on oc,.slice ra rn rc])) _ _ rfl ⟨w.heap.size,0,none⟩ rfl (run_loadC3 A0.out.cell A1.out.cell A2.out.cell)) ?_;go_frame;refine Rg.lk 14 (exec_fn1 100 _ _ rfl rfl (Bfcl1 _ _)) ?_;refine (rkSizes_any hn1 hn2 (Cm.Gr.isG HG.out) HCH.out HC.out).mono ?_
 rintro e1 w3 ⟨sg,rfl,hsg,hsl,hb⟩;have hcz:CL w3 sg (0+0) (.int .i64 ((szD O N N:Nat):Int)):=⟨by have:=hsg.2.1 0 (by omega); rw [this]; unfold szF; simp,hsg.1⟩;clear hsl hsg;refine ⟨_,rfl,?_⟩;go_frame;replace HC:=ι (HC.out.below hb);replace A0:=ι (A0.out.below hb);replace A1:=ι (A1.out.below hb);replace A2:=ι (A2.out.below hb);replace K:=ι (Rg.acc K.out hb);clear hb;have CZ:=ι hcz;refine Rg.lm 12 (.tuple #[.slice (some ⟨sg,0,none⟩) (N+1) (N+1),.bool true]) ?_;go_frame;refine Rg.lr 15 (exec_extract (v:=.slice (some ⟨sg,0,none⟩) (N+1) (N+1)) _ _ rfl rfl rfl) ?_;go_frame;refine Rg.lr 16 (exec_extract (v:=.bool true) _ _ rfl rfl rfl) ?_;go_frame;refine Rg.la 5 (.slice (some ⟨sg,0,none⟩) (N+1) (N+1)) ?_;go_frame;refine Rg.la 6 (.bool true) ?_;go_frame;go_upto_region 5 with (fail);refine Rg.wl ?_;refine Rg.lm 17 (.bool true) ?_;go_frame;refine Rg.lr 18 (exec_not _ _ true rfl rfl) ?_;go_frame
 go_upto_region 7 with (fail);refine Rg.wl ?_;refine Rg.lm 19 (.slice (some ⟨sg,0,none⟩) (N+1) (N+1)) ?_;go_frame;refine Rg.lr 20 (exec_indexS slInts _ _ rfl sg (0) ((N+1)) (N+1) (0) rfl rfl (by omega)) ?_;go_frame;refine Rg.lr 21 (Rg.exec_load (v:=.int .i64 (((szD O N N):Nat):Int)) _ _ rfl ⟨sg,0+0,none⟩ rfl (run_loadInt CZ.out.cell)) ?_;go_frame;refine Rg.la 2 (.int .i64 (((szD O N N):Nat):Int)) ?_;go_frame;refine Rg.la 3 (.int .i64 ((0:Nat):Int)) ?_;go_frame;go_wp2
 go_ret2
 exact ⟨rfl,K.out⟩
end Go.Proofs.YtdnmmibchbceeaaGreat

namespace Go.Proofs.Rg
open Go Go.RowKit
variable {P:Program} {md:Region.Mode} {ops:Array Oper} {Q:Exit→Act→World→Prop} {S:Array Bool→World→Prop}
theorem Any.c2f1u {i k j di dk dj:Nat} {I R0:World→Prop} {Ri Rk Rj:Value→World→Prop} {n:Nat} {l:Array Bool} {a:Act} {w:World} {Pu:Value→Prop} (hp:∀ u W,Ri u W→Pu u) (hS:∀ l W,I W→S l W)
  (ij:i≠j) (kj:k≠j) (dij:di≠dj) (dkj:dk≠dj)
  (r0:Region.ready md ops l=[i,j]) (ri:Region.ready md ops (l.setIfInBounds i true)=[k,j]) (rj:Region.ready md ops (l.setIfInBounds j true)=[i])
  (rik:Region.ready md ops ((l.setIfInBounds i true).setIfInBounds k true)=[j]) (rij:Region.ready md ops ((l.setIfInBounds i true).setIfInBounds j true)=[k])
  (s0:∀ W W',Below W.heap.size W W'→R0 W→R0 W') (si:∀ u W W',Below W.heap.size W W'→Ri u W→Ri u W') (sk:∀ u W W',Below W.heap.size W W'→Rk u W→Rk u W') (sj:∀ u W W',Below W.heap.size W W'→Rj u W→Rj u W')
  (hi:∀ b,(b=a∨∃ u,b=a.put (some dj) u)→∀ W,I W→Does P ops Q i di I Ri (fun W W'=>Below W.heap.size W W') b W)
  (hj:∀ b,(b=a∨(∃ u,b=a.put (some di) u)∨∃ u v,b=(a.put (some di) u).put (some dk) v)→∀ W,I W→Does P ops Q j dj I Rj (fun W W'=>Below W.heap.size W W') b W)
  (hk:∀ u b,(b=a.put (some di) u∨∃ v,b=(a.put (some di) u).put (some dj) v)→∀ W,I W→R0 W→Ri u W→Does P ops Q k dk I Rk (fun W W'=>∀ v,Rj v W→Rj v W') b W)
  (hI:I w) (h0:R0 w) (h:∀ W u x v,Pu u→I W→Rk x W→Rj v W→Any P md ops Q S n (((l.setIfInBounds i true).setIfInBounds k true).setIfInBounds j true) (((a.put (some di) u).put (some dk) x).put (some dj) v) W) :
  Any P md ops Q S (n+3) l a w:=by
 refine Any.two r0 ?_ ?_
 ·refine wpOp_mono ?_ (hi a (.inl rfl) w hI)
  rintro c W ⟨u,rfl,h1,h2,h3⟩;refine ⟨hS _ _ h1,Any.two ri ?_ ?_⟩
  ·refine wpOp_mono ?_ (hk u _ (.inl rfl) W h1 (s0 _ _ h3 h0) h2)
   rintro c W' ⟨x,rfl,g1,g2,g3⟩;refine ⟨hS _ _ g1,Any.one rik ?_⟩;refine wpOp_mono ?_ (hj _ (.inr (.inr ⟨u,x,rfl⟩)) W' g1);rintro c W'' ⟨v,rfl,e1,e2,e3⟩;exact ⟨hS _ _ e1,h _ _ _ _ (hp _ _ h2) e1 (sk _ _ _ e3 g2) e2⟩
  ·refine wpOp_mono ?_ (hj _ (.inr (.inl ⟨u,rfl⟩)) W h1)
   rintro c W' ⟨v,rfl,g1,g2,g3⟩;refine ⟨hS _ _ g1,Any.one rij ?_⟩;refine wpOp_mono ?_ (hk u _ (.inr ⟨v,rfl⟩) W' g1 (s0 _ _ g3 (s0 _ _ h3 h0)) (si _ _ _ g3 h2));rintro c W'' ⟨x,rfl,e1,e2,e3⟩;have:=h W'' u x v (hp _ _ h2) e1 e2 (e3 _ g2);rw [put_comm _ x v dkj,Array.setIfInBounds_comm _ _ kj] at this;exact ⟨hS _ _ e1,this⟩
 ·refine wpOp_mono ?_ (hj a (.inl rfl) w hI)
  rintro c W ⟨v,rfl,h1,h2,h3⟩;refine ⟨hS _ _ h1,Any.one rj ?_⟩;refine wpOp_mono ?_ (hi _ (.inr ⟨v,rfl⟩) W h1);rintro c W' ⟨u,rfl,g1,g2,g3⟩;refine ⟨hS _ _ g1,Any.one (by rw [Array.setIfInBounds_comm _ _ (Ne.symm ij)]; exact rij) ?_⟩;rw [put_comm a v u (Ne.symm dij)];refine wpOp_mono ?_ (hk u _ (.inr ⟨v,rfl⟩) W' g1 (s0 _ _ g3 (s0 _ _ h3 h0)) g2);rintro c W'' ⟨x,rfl,e1,e2,e3⟩;have:=h W'' u x v (hp _ _ g2) e1 e2 (e3 _ (sj _ _ _ g3 h2));rw [put_comm _ x v dkj,Array.setIfInBounds_comm _ _ kj,Array.setIfInBounds_comm _ _ ij] at this;exact ⟨hS _ _ e1,this⟩
end Go.Proofs.Rg
