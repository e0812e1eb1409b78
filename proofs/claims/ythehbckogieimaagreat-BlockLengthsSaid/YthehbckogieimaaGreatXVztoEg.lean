/- Lemmas and contracts on the way to the statement; no condition of their own beyond those written. -/
import Derived.Test.YthehbckogieimaaGreatXCptoCg
import Derived.Deep.CutRange
import Derived.Deep.CutBlock
import Derived.IntWalk
import Derived.Great.BuildSlice
import Derived.ArgAppend
import Derived.Laws.CopyOwn
import Derived.StillTailTactics
import Derived.Deep.MidRow
import Derived.WalkSpells
import Derived.WalkLawsBesides
import Derived.Maps.AppendAt
import Derived.OwnWalk
import Derived.OrdersHeld
import Derived.Deep.OwnRows
import Derived.WalkKit
import Derived.Lib.Hide
import Derived.Laws.OwnMore
import Derived.Test.YthehbckogieimaaGreatProg
import Derived.Outline
import Derived.Deep.DeepFit
import Derived.BigQuiet
import Derived.Deep.QuietTactic
import Derived.Sort.OwnSortedInts
import Derived.WideMake
import Derived.MapKept
import Derived.ChangeMaps5
import Derived.Shelf.Sort.Plain
import Derived.RangeFuncBox
import Derived.RangeFuncLeaves
import Derived.Shelf.Abstract
import Derived.OwnWalkIn
import Derived.TacticsInMore
import Derived.LoopNIn
import Derived.LoopIn
import Derived.RangeFuncWrites
import Derived.RangeFuncNested
import Derived.Sort.CutIn
import Derived.Lib.ConvBytes
import Derived.ChangeKeysEq
import Derived.Laws.Cells
import Derived.Laws.Rows
import Derived.Laws.Tables
import Derived.Deep.WholeRow
import Derived.OrdersIn
import Derived.TacticsIn
import Derived.Deep.LoopGhost
import Derived.Lib.SlicesSearch
set_option linter.unusedVariables false
set_option linter.unusedSimpArgs false
set_option maxRecDepth 100000
set_option maxHeartbeats 8000000
namespace Go.Proofs.YthehbckogieimaaGreat
open Go.RowKit
open Go.Proofs
open Go.Proofs.Cm (Lv Twr trOf)
attribute [local irreducible] Go.Calls
theorem Vzcl0 (args:Array Value) (w:World):(callFunc 194 args).run Tryz.prog w=.ok (.enter 194 args) w:=by kernel_rfl
theorem Vzcl1 (args:Array Value) (w:World):(callFunc 193 args).run Tryz.prog w=.ok (.enter 193 args) w:=by kernel_rfl
theorem Vzcl2 (args:Array Value) (w:World):(callFunc 195 args).run Tryz.prog w=.ok (.enter 195 args) w:=by kernel_rfl
theorem Vzcl3 (args:Array Value) (w:World):(callFunc 123 args).run Tryz.prog w=.ok (.enter 123 args) w:=by kernel_rfl
structure OwI (B:Nat) (W:World) (v:Value) (l:List Int):Prop where
 own:W.ownsRow B 3 1 v l.length (l.map (Value.int .i64))
theorem OwI.below {B:Nat} {W W':World} {v:Value} {l:List Int} (h:OwI B W v l) (hb:Below W.heap.size W W'):OwI B W' v l:=⟨Rg.row_below h.own hb⟩
structure SZ (m:Nat) (W:World):Prop where
 le:m≤W.heap.size
theorem SZ.below {m:Nat} {W W':World} (h:SZ m W) (hb:Below W.heap.size W W'):SZ m W':=⟨Nat.le_trans h.le hb.size⟩
theorem RowP.lt {B:Nat} {W:World} {v:Value} {ll:List (List Int)} (h:RowP B W v ll):∀ k,v.ownBlock=some k→B≤k∧k<W.heap.size:=fun k e=>by
 obtain ⟨us,h1,_⟩:=h.own;exact h1.lt k e
theorem RowP.shape {B:Nat} {W:World} {v:Value} {ll:List (List Int)} (h:RowP B W v ll):∃ a c,v=.slice a ll.length c:=by
 obtain ⟨us,h1,_⟩:=h.own;exact Rg.row_shape h1
theorem RowP.frows {B:Nat} {W:World} {v:Value} {ll:List (List Int)} (h:RowP B W v ll) (hl:ll.length≤1000000000) {G:Nat→Prop} (hG:∀ k,B≤k→k<W.heap.size→G k):Rg.FRows G W v ll:=by
 obtain ⟨us,h1,h2⟩:=h.own;exact ⟨us,Rg.FVals.of (Rg.Vals.of_row h1 hl) (fun k e=>hG k (h1.lt k e).1 (h1.lt k e).2),h2.mono fun k g=>hG k g.1 g.2.1⟩
theorem OwI.fi {B:Nat} {W:World} {v:Value} {l:List Int} (h:OwI B W v l) (hl:l.length≤1000000000) {G:Nat→Prop} (hG:∀ k,B≤k→k<W.heap.size→G k):Rg.FI G W v l :=
 Rg.FVals.of (Rg.Vals.of_row h.own hl) (fun k e=>hG k (h.own.lt k e).1 (h.own.lt k e).2)
theorem Tri.set1 {w:World} {b:Nat} {u1 u2 u3:Value} (h:Tri w b u1 u2 u3) (y:Value):Tri (w.setCell ⟨b,1,none⟩ y) b u1 y u3:=by
 refine ⟨?_,World.cell?_setCell_same (h:=h.c1) ..,?_,?_,?_,?_,by simpa using h.lt⟩
 ·rw [World.cell?_setCell_other (h:=by intro e; injection e with e1 e2; omega) ..]; exact h.c0
 ·rw [World.cell?_setCell_other (h:=by intro e; injection e with e1 e2; omega) ..]; exact h.c2
 ·rw [World.frozen?_setCell]; exact h.f0
 ·rw [World.frozen?_setCell]; exact h.f1
 ·rw [World.frozen?_setCell]; exact h.f2
theorem ChR.shapeO {B:Nat} {W:World} {tc:Nat} {c0 c1 c2 ov rv:Value} {O:List (List Int)} {R:List (List (List Int))} (h:ChR B W tc c0 c1 c2 ov rv O R):∃ a c,ov=.slice a O.length c:=by
 obtain ⟨us,vs,h1,_⟩:=h.own;exact Rg.row_shape h1
theorem ChR.shapeR {B:Nat} {W:World} {tc:Nat} {c0 c1 c2 ov rv:Value} {O:List (List Int)} {R:List (List (List Int))} (h:ChR B W tc c0 c1 c2 ov rv O R):∃ a c,rv=.slice a R.length c:=by
 obtain ⟨us,vs,_,h1,_⟩:=h.own;exact Rg.row_shape h1
theorem ChR.kp {M:Nat→Prop} {B:Nat} {W W':World} {tc:Nat} {c0 c1 c2 ov rv:Value} {O:List (List Int)} {R:List (List (List Int))} (h:ChR B W tc c0 c1 c2 ov rv O R) (hk:Rg.Kp M W W') (hM:∀ z,M z→z<B):ChR B W' tc c0 c1 c2 ov rv O R:=by
 obtain ⟨us,vs,h1,h2,h3,h4⟩:=h.own
 have hg:∀ z,GS2 B W tc ov rv z→¬ M z:=fun z g e=>by have:=hM z e; have:=g.1; omega
 have hm:∀ z,GS2 B W tc ov rv z→GS2 B W' tc ov rv z:=fun z g=>g.up hk.size;exact ⟨h.tri.kp hk (fun e=>by have:=hM _ e; have:=h.low; omega),h.low,⟨us,vs,rowKp h1 hk (fun z e e2=>by have:=hM z e; have:=(h1.lt z e2).1; omega),rowKp h2 hk (fun z e e2=>by have:=hM z e; have:=(h2.lt z e2).1; omega),(h3.kp hk hg).mono hm,FElts2.mono (FElts2.kp h4 hk hg) hm⟩,h.apart,h.ot,h.rt⟩
def FRows2 (F:Nat→Prop) (w:World) (v:Value) (lll:List (List (List Int))):Prop:=∃ us,Rg.FVals F w v us∧Rg.FElts2 F w us lll
theorem FRows2.rows {F:Nat→Prop} {w:World} {v:Value} {lll:List (List (List Int))} (h:FRows2 F w v lll):Rows2 w v lll:=by
 obtain ⟨us,h1,h2⟩:=h;exact ⟨us,h1.vals,h2.1,fun i a b=>FRows.rows (h2.2 i a b)⟩
theorem FRows2.kp {F M:Nat→Prop} {w w':World} {v:Value} {ll:List (List (List Int))} (h:FRows2 F w v ll) (hk:Rg.Kp M w w') (hF:∀ k,F k→¬ M k):FRows2 F w' v ll:=by
 obtain ⟨us,h1,h2⟩:=h;exact ⟨us,h1.kp hk hF,FElts2.kp h2 hk hF⟩
theorem ChR.frO {B:Nat} {W:World} {tc:Nat} {c0 c1 c2 ov rv:Value} {O:List (List Int)} {R:List (List (List Int))} (h:ChR B W tc c0 c1 c2 ov rv O R) (hl:O.length≤1000000000):Rg.FRows (fun z=>B≤z) W ov O:=by
 obtain ⟨us,vs,h1,h2,h3,h4⟩:=h.own;exact ⟨us,Rg.FVals.of (Rg.Vals.of_row h1 hl) (fun k e=>(h1.lt k e).1),h3.mono fun _ g=>g.1⟩
theorem ChR.frR {B:Nat} {W:World} {tc:Nat} {c0 c1 c2 ov rv:Value} {O:List (List Int)} {R:List (List (List Int))} (h:ChR B W tc c0 c1 c2 ov rv O R) (hl:R.length≤1000000000):FRows2 (fun z=>B≤z) W rv R:=by
 obtain ⟨us,vs,h1,h2,h3,h4⟩:=h.own;exact ⟨vs,Rg.FVals.of (Rg.Vals.of_row h2 hl) (fun k e=>(h2.lt k e).1),FElts2.mono h4 fun _ g=>g.1⟩
structure Pend (B:Nat) (W:World) (tc:Nat) (c0 c1 c2 ov rv:Value) (O:List (List Int)) (R:List (List (List Int))) (x5:Value) (l5:List Int) (x6:Value) (l6:List (List Int)):Prop where
 ch:ChR B W tc c0 c1 c2 ov rv O R
 f5:Rg.FI (GS2 B W tc ov rv) W x5 l5
 f6:Rg.FRows (GS2 B W tc ov rv) W x6 l6
theorem frows_below {B:Nat} {W W':World} {tc:Nat} {ov rv x6:Value} {l6:List (List Int)} (h:Rg.FRows (GS2 B W tc ov rv) W x6 l6) (hb:Below W.heap.size W W'):Rg.FRows (GS2 B W' tc ov rv) W' x6 l6 :=
 FRows.mono (FRows.kp (M:=fun _=>False) h (Rg.Kp.of_below hb) (fun _ _=>id)) (fun _ g=>g.up hb.size)
theorem Pend.below {B:Nat} {W W':World} {tc:Nat} {c0 c1 c2 ov rv:Value} {O:List (List Int)} {R:List (List (List Int))} {x5:Value} {l5:List Int} {x6:Value} {l6:List (List Int)} (h:Pend B W tc c0 c1 c2 ov rv O R x5 l5 x6 l6) (hb:Below W.heap.size W W'):Pend B W' tc c0 c1 c2 ov rv O R x5 l5 x6 l6 :=
 ⟨h.ch.below hb,Rg.FI.mono (Rg.FI.kp (M:=fun _=>False) h.f5 (Rg.Kp.of_below hb) (fun _ _=>id)) (fun _ g=>g.up hb.size),frows_below h.f6 hb⟩
theorem CL.c {w:World} {b o:Nat} {v:Value} (h:CL w b o v):w.cell? ⟨b,o,none⟩=some v:=h.cell
theorem chain_any {n:Nat} (hn1:1≤n) (hn2:n≤64) {F:Nat→Prop} {L tb:Nat} {w:World} {T:Twr} {V:Nat→LV} {H:List Nat→Prop} (hT:TowAt F L n w T V) (hc0:CF F w tb 0 (.int .i64 ((n:Nat):Int))) (hc1:CF F w tb 1 (.slice (some ⟨L,0,none⟩) n n)) (hH:Cm.IsG n H) (htr:Cm.IsTr n H (trOf T)) (hl:∀ j,j<n→Cm.Lvl n T j) :
  Calls Tryz.prog 118 #[.pointer (some ⟨tb,0,none⟩)] w fun e w'=>∃ ov rv O R,e=.returned (.agg #[.int .i64 ((n:Nat):Int),ov,rv])∧Rg.FRows (fun z=>w.heap.size≤z) w' ov (O.map Ma.ofN)∧FRows2 (fun z=>w.heap.size≤z) w' rv (R.map (List.map Ma.ofN))∧Cm.IsChain n H O R∧Below w.heap.size w w':=by
 have K:=ι (Below.refl w.heap.size w);have HT:=ι hT;have C0:=ι hc0;have C1:=ι hc1;have HH:=ι hH;have HTR:=ι htr;have HL:=ι hl;clear hT hc0 hc1 hH htr hl
 go_enter Tryz.func118,Tryz.ntmps118
 go_upto_region 0 with (fail);refine wp_region_list ?_;have hnew:=Tri.new w (.int .i64 0) (.slice none 0 0) (.slice none 0 0);refine Rg.lr 2 (exec_allocC rfl) ?_;go_frame;have hb:=(Below.refl w.heap.size w).alloc (Nat.le_refl _) (.cells #[.int .i64 0,.slice none 0 0,.slice none 0 0] 54);generalize w.alloc (.cells #[.int .i64 0,.slice none 0 0,.slice none 0 0] 54)=w1 at *;replace HT:=ι (HT.out.below hb);replace C0:=ι (C0.out.below hb);replace C1:=ι (C1.out.below hb);replace K:=ι (Rg.acc K.out hb);clear hb;have FT:=ι hnew;have K1:=ι (Below.refl w1.heap.size w1);have hlo1:=(FT.out.lt);clear hnew;go_upto_region 1 with (fail);refine wp_region_list ?_;refine Rg.lm 9 (.pointer (some ⟨tb,0,none⟩)) ?_;go_frame;refine Rg.lr 10 (exec_nil _ rfl rfl) ?_;go_frame;refine Rg.lr 11 (exec_field _ rfl rfl (towF0 _ _)) ?_;go_frame;refine Rg.lr 12 (Rg.exec_load (v:=.int .i64 ((n:Nat):Int)) _ _ rfl ⟨tb,0,none⟩ rfl (run_loadInt ((Below.cell (p:=⟨tb,0,none⟩) K1.out C0.out.lt).trans C0.out.cell))) ?_;go_frame
 refine Rg.lr 13 (exec_buildC1 (d:=((n:Nat):Int)) _ rfl rfl) ?_;go_frame;have hnew:=Tri.new w1 (.int .i64 0) (.slice none 0 0) (.slice none 0 0);refine Rg.lr 3 (exec_allocC rfl) ?_;go_frame;have hb:=(Below.refl w1.heap.size w1).alloc (Nat.le_refl _) (.cells #[.int .i64 0,.slice none 0 0,.slice none 0 0] 54);generalize w1.alloc (.cells #[.int .i64 0,.slice none 0 0,.slice none 0 0] 54)=w2 at *;replace K1:=ι (Rg.acc K1.out hb);clear hb;have FC:=ι hnew;refine Rg.list_skip none rfl rfl (Rg.exec_store _ _ _ rfl _ rfl _ rfl (run_storeC _ _ _ _ _ _ _ FC.out)) ?_;go_frame;clear hnew;replace FC:=ι (FC.out.set (.int .i64 ((n:Nat):Int)) (.slice none 0 0) (.slice none 0 0));replace K1:=ι (((K1.out.setCell (p:=⟨w1.heap.size,0,none⟩) (Nat.le_refl _) (.int .i64 ((n:Nat):Int))).setCell (p:=⟨w1.heap.size,1,none⟩) (Nat.le_refl _) (.slice none 0 0)).setCell (p:=⟨w1.heap.size,2,none⟩) (Nat.le_refl _) (.slice none 0 0))
 generalize (((w2).setCell ⟨w1.heap.size,0,none⟩ (.int .i64 ((n:Nat):Int))).setCell ⟨w1.heap.size,1,none⟩ (.slice none 0 0)).setCell ⟨w1.heap.size,2,none⟩ (.slice none 0 0)=w5 at *;have CH:=ι (ChR.start FC.out (Nat.le_refl _));clear FC;go_upto_region 2 with (fail);refine wp_region_list ?_;refine Rg.lm 14 (.pointer (some ⟨tb,0,none⟩)) ?_;go_frame;refine Rg.lr 15 (exec_nil _ rfl rfl) ?_;go_frame;refine Rg.lr 16 (exec_field _ rfl rfl (towF1 _ _)) ?_;go_frame;refine Rg.lr 17 (Rg.exec_load (v:=.slice (some ⟨L,0,none⟩) n n) _ _ rfl ⟨tb,1,none⟩ rfl (Rg.run_loadSl _ _ Tryz.underlying200 ((Below.cell (p:=⟨tb,1,none⟩) K1.out C1.out.lt).trans C1.out.cell))) ?_;go_frame;refine Rg.lr 18 (exec_len _ _ _ rfl Tryz.underlying200 _ _ _ rfl) ?_;go_frame;refine Rg.lm 19 (.int .i64 ((0:Nat):Int)) ?_;go_frame;have HPC:=ι (Cm.PC.nil n H (trOf T));go_wp2
 go_loopw [19] (fun iv wr=>∃ (k:Nat) (ov rv:Value) (O:List (List Nat)) (R:List (List (List Nat))),iv=.int .i64 k∧k≤n∧Hid (ChR w1.heap.size wr w1.heap.size (.int .i64 ((n:Nat):Int)) ov rv ov rv (O.map Ma.ofN) (R.map (List.map Ma.ofN)))∧Hid (Below w1.heap.size w1 wr)∧Hid (Cm.PC n H (trOf T) k O R)) (fun iv _=>n - (intOf iv).toNat)
 case atStart=>exact ⟨0,_,_,[],[],rfl,Nat.zero_le _,CH,K1,HPC⟩
 case round =>
  clear CH K1 HPC;obtain ⟨k,ov,rv,O,R,rfl,hk,CH,K1,HPC⟩:=hrel;have hsO:=CH.out.shapeO;have hsR:=CH.out.shapeR;rw [List.length_map] at hsO hsR;obtain ⟨ova,ovc,rfl⟩:=hsO;obtain ⟨rva,rvc,rfl⟩:=hsR
  by_cases hkl:k<n
  ·have hkN:(k:Int)<(n:Int):=by omega
   have hlk:=HL.out k hkl;have hon:=Cm.orb_len hlk;have hko:1≤(T k).orb.length:=List.length_pos_of_mem ((hlk.orb k).2 ⟨_,hlk.self⟩);obtain ⟨l,hl1,hl2,hl3,hl4⟩:=Cm.sort_nat (T k).orb hlk.nd;have HA1:=ι (show Ob.asc (Ma.ofN (T k).orb)=Ma.ofN l by rw [Ob.asc_sort]; exact hl1);have HA2:=ι hl2;have HA3:=ι hl3;have HA4:=ι hl4;obtain ⟨oa,oc,hVo⟩:=HT.out.orbL hkl;have CO:=ι (CL.mk (show w1.cell? ⟨L,k*194+1,none⟩=some (.slice oa (T k).orb.length oc) by rw [getO HT.out hkl rfl,hVo]) HT.out.lt);have SI:=ι (show SInts w1.heap.size w1 (.slice oa (T k).orb.length oc) (Ma.ofN (T k).orb) by have:=SInts.of_own (HT.out.lv k hkl).oown (by rw [Ma.len_ofN]) hko; rwa [hVo] at this);have HKL:=ι hkl;have HLTS:=ι (show (∀ z,(Value.slice ova O.length ovc).ownBlock=some z→z<wr.heap.size)∧(∀ z,(Value.slice rva R.length rvc).ownBlock=some z→z<wr.heap.size)∧w1.heap.size<wr.heap.size from ⟨fun z e=>(CH.out.lts.1 z e).2,fun z e=>(CH.out.lts.2 z e).2,CH.out.tri.lt⟩)
   have SZ1:=ι (SZ.mk (Nat.le_refl wr.heap.size))
   have hkl1:1≤(Ma.ofN (T k).orb).length:=by rw [Ma.len_ofN]; exact hko
   have hkl2:(Ma.ofN (T k).orb).length≤1000000:=by rw [Ma.len_ofN]; omega
   have HO1:=ι (show l.length≤64 by rw [hl4]; omega);have HO2:=ι (show 1≤l.length by rw [hl4]; exact hko);clear hlk hl1 hl2 hl3 hl4 hVo;go_upto_region 5 with (fail);refine wp_region_list ?_;refine Rg.lm 22 (.pointer (some ⟨tb,0,none⟩)) ?_;go_frame;refine Rg.lr 23 (exec_nil _ rfl rfl) ?_;go_frame;refine Rg.lr 24 (exec_field _ rfl rfl (towF1 _ _)) ?_;go_frame;refine Rg.lr 25 (Rg.exec_load (v:=.slice (some ⟨L,0,none⟩) n n) _ _ rfl ⟨tb,1,none⟩ rfl (Rg.run_loadSl _ _ Tryz.underlying200 ((Below.cell (p:=⟨tb,1,none⟩) K1.out C1.out.lt).trans C1.out.cell))) ?_;go_frame;refine Rg.lm 26 (.int .i64 ((k:Nat):Int)) ?_;go_frame;refine Rg.lr 27 (exec_indexZ0 _ _ rfl Tryz.underlying200 szLevel L (n) (n) (k) rfl rfl HKL.out) ?_;go_frame;refine Rg.lr 28 (exec_field _ rfl rfl (lvF1 _ _ _)) ?_;go_frame;refine Rg.lr 29 (Rg.exec_load (v:=.slice oa (T k).orb.length oc) _ _ rfl ⟨L,k*194+1,none⟩ rfl (Rg.run_loadSl _ _ Tryz.underlying36 ((Below.cell (p:=⟨L,k*194+1,none⟩) K1.out CO.out.lt).trans CO.out.cell))) ?_;go_frame
   refine list_ask (some 30) rfl rfl _ _ (exec_fn1 194 _ _ rfl rfl (Vzcl0 _ _)) ?_;refine (values_any _ _ _ wr).mono ?_;rintro e1 w11 ⟨fb,rfl,hcl,hb⟩;refine ⟨_,rfl,?_⟩;go_frame;replace CH:=ι (CH.out.below hb);replace SZ1:=ι (SZ1.out.below hb);replace K1:=ι (Rg.acc K1.out hb);clear hb;have FB:=ι hcl;have hszW:=SZ1.out.le;refine list_ask (some 31) rfl rfl _ _ (exec_fn1 193 _ _ rfl rfl (Vzcl1 _ _)) ?_;refine (Sorted_any fb _ _ hkl1 hkl2 w11 FB.out.lt FB.out.cell (SI.out.up K1.out)).mono ?_;rintro e1 w12 ⟨v,rfl,hrow,hb⟩;rw [HA1.out,Ma.len_ofN] at hrow;have hrow:=OwI.mk (l:=Ma.ofN l) (by rw [Ma.len_ofN,HA4.out]; exact hrow);have hq:=row_of hrow.own (k:=0) (by rw [Ma.len_ofN]; exact HO2.out);rw [Ma.len_ofN] at hq;obtain ⟨sb,sc,u0,rfl,_,_,_⟩:=hq;have HBB:=ι hszW;refine ⟨_,rfl,?_⟩;go_frame;replace CH:=ι (CH.out.below hb);replace SZ1:=ι (SZ1.out.below hb)
   replace FB:=ι (FB.out.below hb);replace K1:=ι (Rg.acc K1.out hb);clear hb;have R5:=ι hrow;refine Rg.la 5 (.slice (some ⟨sb,0,none⟩) l.length sc) ?_;go_frame;clear hcl hrow FB CO SI;replace HT:=ι (HT.out.below K1.out);replace C0:=ι (C0.out.below K1.out);replace C1:=ι (C1.out.below K1.out);replace FT:=ι (FT.out.below K1.out);have K5:=ι (Below.refl w12.heap.size w12);have RP:=ι (RowP.nil w12.heap.size w12);have HRS:=ι (show ∀ j,j<0→Cm.Lst n (fun z=>Cm.St H k z∧Cm.ap z k=l.getD j 0) (([]:List (List Nat)).getD j []) from fun j h=>absurd h (Nat.not_lt_zero _));go_wp2
   go_loopw [34,6] (fun iv tv wq=>∃ (m:Nat) (rs:List (List Nat)),iv=.int .i64 m∧m≤l.length∧rs.length=m∧Hid (RowP w12.heap.size wq tv (rs.map Ma.ofN))∧Hid (Below w12.heap.size w12 wq)∧Hid (∀ j,j<m→Cm.Lst n (fun z=>Cm.St H k z∧Cm.ap z k=l.getD j 0) (rs.getD j []))) (fun iv _ _=>l.length - (intOf iv).toNat)
   case atStart=>exact ⟨0,[],rfl,Nat.zero_le _,rfl,RP,K5,HRS⟩
   case round =>
    clear K5 RP HRS;obtain ⟨m,rs,rfl,hm,hrs,RP,K5,HRS⟩:=hrel
    have hlN:(l.length:Int)≤64:=by have:=HO1.out; omega
    obtain ⟨ta,tc,rfl⟩:=RP.out.shape
    by_cases hml:m<l.length
    ·have hmN:(m:Int)<(l.length:Int):=by omega
     obtain ⟨p,hp⟩:∃ p:Nat,Hid (p=l[m]):=⟨_,ι rfl⟩
     have hcell:w12.cell? ⟨sb,0+m,none⟩=some (.int .i64 ((p:Nat):Int)):=by
      obtain ⟨g,c,u,e1,e2,e3,_⟩:=row_of R5.out.own (k:=m) (by rw [Ma.len_ofN]; exact hml);simp only [Value.slice.injEq,Option.some.injEq,Addr.mk.injEq] at e1;obtain ⟨⟨rfl,_,_⟩,_,_⟩:=e1;rw [e2,← e3,hp.out];simp [Ma.ofN,List.getElem?_eq_getElem hml]
     have CS:=ι (CL.mk hcell (lt_of_cell hcell));obtain ⟨u,hu⟩:=((HL.out k HKL.out).orb p).1 ((HA3.out p).1 (by rw [hp.out]; exact List.getElem_mem hml));have hlk:=HL.out k HKL.out;have hpn:=hlk.tlt p u hu
     have hp64:p<64:=by omega
     have GU:=ι (hlk.tgd p u hu);have HU:=ι hu;obtain ⟨ub,uo,uc,hVu,hUP⟩:=HT.out.toS HKL.out hp64 hu GU.out hn1;have UP:=ι hUP;have CU:=ι (CL.mk (show w12.cell? ⟨L,k*194+2+p,none⟩=some (.slice (some ⟨ub,uo,none⟩) n uc) by rw [getTo HT.out HKL.out hp64 (by omega),hVu]) HT.out.lt);have HML:=ι hml;have HRL:=ι hrs;clear hcell hu hlk hVu hUP hrs;go_upto_region 9 with (fail);refine wp_region_list ?_;refine Rg.lr 36 (exec_indexS slInts _ _ rfl sb (0) (l.length) sc (m) rfl rfl HML.out) ?_;go_frame;refine Rg.lr 37 (Rg.exec_load (v:=.int .i64 ((p:Nat):Int)) _ _ rfl ⟨sb,0+m,none⟩ rfl (run_loadInt ((Below.cell (p:=⟨sb,0+m,none⟩) K5.out CS.out.lt).trans CS.out.cell))) ?_;go_frame;refine Rg.la 8 (.int .i64 ((p:Nat):Int)) ?_;go_frame;go_upto_region 10 with (fail);refine wp_region_list ?_;refine Rg.lm 38 (.slice ta (rs.map Ma.ofN).length tc) ?_;go_frame
     refine Rg.lm 39 (.pointer (some ⟨tb,0,none⟩)) ?_;go_frame;refine Rg.lm 40 (.pointer (some ⟨tb,0,none⟩)) ?_;go_frame;refine Rg.lr 41 (exec_nil _ rfl rfl) ?_;go_frame;refine Rg.lr 42 (exec_field _ rfl rfl (towF1 _ _)) ?_;go_frame;refine Rg.lr 43 (Rg.exec_load (v:=.slice (some ⟨L,0,none⟩) n n) _ _ rfl ⟨tb,1,none⟩ rfl (Rg.run_loadSl _ _ Tryz.underlying200 ((Below.cell (p:=⟨tb,1,none⟩) K5.out C1.out.lt).trans C1.out.cell))) ?_;go_frame;refine Rg.lm 44 (.int .i64 ((k:Nat):Int)) ?_;go_frame;refine Rg.lm 45 (.int .i64 ((p:Nat):Int)) ?_;go_frame;refine Rg.lr 46 (exec_indexZ0 _ _ rfl Tryz.underlying200 szLevel L (n) (n) (k) rfl rfl HKL.out) ?_;go_frame;refine Rg.lr 47 (exec_field _ rfl rfl (lvF2 _ _ _)) ?_;go_frame;refine Rg.lr 48 (exec_indexArr _ _ rfl Tryz.underlying207 szP L (k*194+2) (p) rfl rfl hp64) ?_;go_frame;refine Rg.lr 49 (Rg.exec_load (v:=.slice (some ⟨ub,uo,none⟩) n uc) _ _ rfl ⟨L,k*194+2+p,none⟩ rfl (Rg.run_loadSl _ _ Tryz.underlying51 ((Below.cell (p:=⟨L,k*194+2+p,none⟩) K5.out CU.out.lt).trans CU.out.cell))) ?_;go_frame
     refine Rg.lm 50 (.int .i64 ((k:Nat):Int)) ?_;go_frame;refine list_ask (some 51) rfl rfl _ _ (exec_fn3 195 _ _ _ _ rfl rfl rfl rfl (Vzcl2 _ _)) ?_;refine (least_any hn1 hn2 (HT.out.below K5.out) (C0.out.below K5.out) (C1.out.below K5.out) HH.out HTR.out HL.out (UP.out.below K5.out) GU.out HKL.out).mono ?_;rintro e1 w41 ⟨F2,yv,y,rfl,_,_,hy,hli,hgy,hb⟩;have HLI:=ι hli;have GY:=ι hgy;refine ⟨_,rfl,?_⟩;go_frame;replace RP:=ι (RP.out.below hb);replace K5:=ι (Rg.acc K5.out hb);clear hb;have YN:=ι hy;have HLT6:=ι (fun z e=>(RP.out.lt z e).2);have HSZ6:=ι K5.out.size;refine list_ask (some 52) rfl rfl _ _ (exec_fn1 123 _ _ rfl rfl (Vzcl3 _ _)) ?_;refine (Clone_any _ (Ma.ofN y) w41 YN.out.np (by rw [Ma.len_ofN,GY.out.2]; exact hn1) (by rw [Ma.len_ofN,GY.out.2]; omega)).mono ?_;rintro e1 w42 ⟨cv,rfl,hrow,hb⟩;obtain ⟨ca,cc,rfl⟩:=Rg.row_shape hrow;have HROW:=ι hrow
     refine ⟨_,rfl,?_⟩;go_frame;replace RP:=ι (RP.out.below hb);replace YN:=ι (YN.out.below hb);replace K5:=ι (Rg.acc K5.out hb);clear hb;refine Rg.lr 53 (Rg.exec_buildSlice _ _ _ rfl (.slice ca (Ma.ofN y).length cc) rfl (run_build1P w42 _ ⟨_,_,_,rfl⟩)) ?_;go_frame;obtain ⟨a9,c9,X9,r1,r2,r3⟩:=RP.out.push K5.out.size HROW.out (by rw [Ma.len_ofN,GY.out.2]; omega) (fun z e=>⟨by have:=(HROW.out.lt z e).1; have:=HSZ6.out; omega,fun e2=>by have:=(HROW.out.lt z e).1; have:=HLT6.out z e2; omega⟩) (by rw [List.length_map,HRL.out]; have:=HO1.out; have:=HML.out; omega) 22;refine Rg.lr 54 (Rg.exec_append _ _ _ rfl rfl rfl r1) ?_;go_frame;refine Rg.la 6 (.slice a9 ((rs.map Ma.ofN).length+1) c9) ?_;go_frame;have K6:=ι (r3 (Nat.le_refl _) K5.out);have RP2:=ι (show RowP w12.heap.size X9 (.slice a9 ((rs.map Ma.ofN).length+1) c9) ((rs++[y]).map Ma.ofN) by rw [List.map_append]; exact r2)
     have HLS:=ι (Cm.LI.done HH.out HKL.out ⟨HTR.out.mem k p u HKL.out HU.out,HTR.out.rp.fx k p u (Nat.zero_le _) HKL.out HU.out⟩ HLI.out)
     have HRS2:=ι (show ∀ j,j<m+1→Cm.Lst n (fun z=>Cm.St H k z∧Cm.ap z k=l.getD j 0) ((rs++[y]).getD j []) from fun j hj=>by
      have hl:=HRL.out
      by_cases e:j=m
      ·subst e
       have e1:(rs++[y]).getD j []=y:=by
        rw [List.getD_eq_getElem?_getD,List.getElem?_append_right (by omega),hl]; simp
       have e2:l.getD j 0=p:=by
        rw [hp.out,List.getD_eq_getElem?_getD,List.getElem?_eq_getElem HML.out]; rfl
       have e3:Cm.ap u k=p:=HTR.out.rp.at_ k p u (Nat.zero_le _) HKL.out HU.out;rw [e1,e2];have:=HLS.out
       rwa [e3] at this
      ·have e1:(rs++[y]).getD j []=rs.getD j []:=by
        rw [List.getD_eq_getElem?_getD,List.getD_eq_getElem?_getD,List.getElem?_append_left (by omega)]
       rw [e1]
       exact HRS.out j (by omega))
     have HRL2:=ι (show (rs++[y]).length=m+1 by rw [List.length_append,HRL.out]; rfl);clear r1 r2 r3;go_wp2
     go_roundw
     case rel=>exact ⟨m+1,rs++[y],by go_num,HML.out,HRL2.out,RP2,K6,HRS2⟩
     case measure=>simp [intOf]; have:=HML.out; omega
    ·obtain rfl:m=l.length:=by omega
     have hmN:¬ (l.length:Int)<(l.length:Int):=by omega
     replace CH:=ι (CH.out.below K5.out);replace K1:=ι (Rg.acc K1.out K5.out);have SZ5:=SZ1.out.le;replace SZ1:=ι (SZ1.out.below K5.out);have hR5:=R5.out.below K5.out
     have PD:=ι (Pend.mk CH.out (hR5.fi (by rw [Ma.len_ofN]; omega) (G:=GS2 w1.heap.size wr w1.heap.size (Value.slice ova O.length ovc) (Value.slice rva R.length rvc)) (fun z g1 g2=>⟨by have:=HBB.out; have:=HLTS.out.2.2; omega,g2,fun e=>by have:=HBB.out; have:=HLTS.out.1 z e; omega,fun e=>by have:=HBB.out; have:=HLTS.out.2.1 z e; omega,by have:=HBB.out; have:=HLTS.out.2.2; omega⟩))
      (RP.out.frows (by rw [List.length_map,hrs]; omega) (G:=GS2 w1.heap.size wr w1.heap.size (Value.slice ova O.length ovc) (Value.slice rva R.length rvc)) (fun z g1 g2=>⟨by have:=HLTS.out.2.2; omega,g2,fun e=>by have:=HLTS.out.1 z e; omega,fun e=>by have:=HLTS.out.2.1 z e; omega,by have:=HLTS.out.2.2; omega⟩)))
     have HRSL:=ι hrs;have HOL:=ι (show (O.map Ma.ofN).length<1000000 by rw [List.length_map,HPC.out.lenO]; omega);have HRLn:=ι (show (R.map (List.map Ma.ofN)).length<1000000 by rw [List.length_map,HPC.out.lenR]; omega);clear SZ5 hR5 CH RP R5 FT hrs;go_upto_region 12 with (fail);have hV1:Below wr.heap.size wr wr.drew:=(Below.refl _ _).drew;replace PD:=ι (PD.out.below hV1);replace K1:=ι (Rg.acc K1.out hV1);replace SZ1:=ι (SZ1.out.below hV1);clear hV1;have hV0:Below wr.heap.size wr wr.drew:=(Below.refl _ _).drew;generalize Fup F wr wr.drew=F1 at *;clear hV0;refine Rg.Any.begin (S:=Rg.Both 11 (fun W:World=>Tri W w1.heap.size (.int .i64 ((n:Nat):Int)) (Value.slice ova O.length ovc) (Value.slice rva R.length rvc)∧Below w1.heap.size w1 W) (fun _=>True)) mix ?_;generalize wr.drew=w61 at *;have hS:∀ (l:Array Bool) W,(fun W:World=>Tri W w1.heap.size (.int .i64 ((n:Nat):Int)) (Value.slice ova O.length ovc) (Value.slice rva R.length rvc)∧Below w1.heap.size w1 W) W→Rg.Both 11 (fun W:World=>Tri W w1.heap.size (.int .i64 ((n:Nat):Int)) (Value.slice ova O.length ovc) (Value.slice rva R.length rvc)∧Below w1.heap.size w1 W) (fun _=>True) l W:=fun l W h=>⟨.inr h,trivial⟩
     have hS2:∀ (l:Array Bool) W,l.getD 11 false=true→Rg.Both 11 (fun W:World=>Tri W w1.heap.size (.int .i64 ((n:Nat):Int)) (Value.slice ova O.length ovc) (Value.slice rva R.length rvc)∧Below w1.heap.size w1 W) (fun _=>True) l W:=fun l W h=>⟨.inl h,trivial⟩;have hI:(fun W:World=>Tri W w1.heap.size (.int .i64 ((n:Nat):Int)) (Value.slice ova O.length ovc) (Value.slice rva R.length rvc)∧Below w1.heap.size w1 W) w61:=⟨PD.out.ch.tri,K1.out⟩;refine Rg.tg 0 11 (.pointer (some ⟨w1.heap.size,1,none⟩)) 56 rfl rfl (.inl ⟨rfl,fun w _=>exec_field _ rfl rfl (chF1 _ _)⟩) (hS _ _ hI) ?_;go_frame;refine Rg.Any.takeT (i:=1) (t:=11) (v:=.slice ova O.length ovc) (some 57) rfl rfl (by kernel_rfl) (by kernel_rfl) (by kernel_rfl) (fun _ _ _ h=>h) rfl (by kernel_rfl) rfl (Rg.yields_cell _ _ rfl rfl ⟨w1.heap.size,1,none⟩ rfl (fun W hW=>Rg.run_loadSl _ _ Tryz.underlying27 hW.1.c1)) (hS _ _ hI) ?_;go_frame
     refine Rg.tm 2 11 (.slice (some ⟨sb,0,none⟩) l.length sc) 58 (hS _ _ hI) ?_;go_frame;refine Rg.tg 5 11 (.pointer (some ⟨w1.heap.size,2,none⟩)) 61 rfl rfl (.inl ⟨rfl,fun w _=>exec_field _ rfl rfl (chF2 _ _)⟩) (hS _ _ hI) ?_;go_frame;refine Rg.Any.takeT (i:=6) (t:=11) (v:=.slice rva R.length rvc) (some 62) rfl rfl (by kernel_rfl) (by kernel_rfl) (by kernel_rfl) (fun _ _ _ h=>h) rfl (by kernel_rfl) rfl (Rg.yields_cell _ _ rfl rfl ⟨w1.heap.size,2,none⟩ rfl (fun W hW=>Rg.run_loadSl _ _ Tryz.underlying52 hW.1.c2)) (hS _ _ hI) ?_;go_frame;refine Rg.tm 7 11 (.slice ta (rs.map Ma.ofN).length tc) 63 (hS _ _ hI) ?_;go_frame
     refine Rg.Any.c2f1q (i:=3) (k:=4) (j:=8) (q:=10) (di:=59) (dk:=60) (dj:=64) (dq:=66) (vq:=.pointer (some ⟨w1.heap.size,1,none⟩)) (I:=fun W=>(fun W:World=>Tri W w1.heap.size (.int .i64 ((n:Nat):Int)) (Value.slice ova O.length ovc) (Value.slice rva R.length rvc)∧Below w1.heap.size w1 W) W∧w61.heap.size≤W.heap.size) (R0:=fun W=>Pend w1.heap.size W w1.heap.size (.int .i64 ((n:Nat):Int)) (Value.slice ova O.length ovc) (Value.slice rva R.length rvc) (Value.slice ova O.length ovc) (Value.slice rva R.length rvc) (O.map Ma.ofN) (R.map (List.map Ma.ofN)) (.slice (some ⟨sb,0,none⟩) l.length sc) (Ma.ofN l) (.slice ta (rs.map Ma.ofN).length tc) (rs.map Ma.ofN)) (Ri:=fun u W=>Rg.BlkF w61.heap.size [.slice (some ⟨sb,0,none⟩) l.length sc] u W) (Rk:=fun x W=>ChR w1.heap.size W w1.heap.size (.int .i64 ((n:Nat):Int)) (Value.slice ova O.length ovc) (Value.slice rva R.length rvc) x (Value.slice rva R.length rvc) (O.map Ma.ofN++[Ma.ofN l]) (R.map (List.map Ma.ofN))∧Rg.FRows (GS2 w1.heap.size W w1.heap.size x (Value.slice rva R.length rvc)) W (.slice ta (rs.map Ma.ofN).length tc) (rs.map Ma.ofN)∧∃ a c,x=.slice a (O.length+1) c) (Rj:=fun v W=>Rg.BlkF w61.heap.size [.slice ta (rs.map Ma.ofN).length tc] v W) (fun l W h=>hS l W h.1)
      (by decide) (by decide) (by decide) (by decide) (by decide) (by decide) (by kernel_rfl) (by kernel_rfl) (by kernel_rfl) (by kernel_rfl) (by kernel_rfl) ?_ ?_
      (fun _ _ hb h=>h.below hb) (fun _ _ _ hb h=>h.below hb) (fun _ _ _ hb h=>⟨h.1.below hb,frows_below h.2.1 hb,h.2.2⟩) (fun _ _ _ hb h=>h.below hb) ?_ ?_ ?_ ⟨hI,Nat.le_refl _⟩ (PD.out) ?_
     ·intro u x W m hs h
      exact Rg.Any.takeG (i:=10) (t:=11) (v:=.pointer (some ⟨w1.heap.size,1,none⟩)) (some 66) rfl rfl (by kernel_rfl) (by kernel_rfl) (by kernel_rfl) (fun _ _ _ h=>h) rfl (.inl ⟨rfl,fun w _=>exec_field _ rfl rfl (chF1 _ _)⟩) hs h
     ·intro u v x W m hs h
      exact Rg.Any.takeG (i:=10) (t:=11) (v:=.pointer (some ⟨w1.heap.size,1,none⟩)) (some 66) rfl rfl (by kernel_rfl) (by kernel_rfl) (by kernel_rfl) (fun _ _ _ h=>h) rfl (.inl ⟨rfl,fun w _=>exec_field _ rfl rfl (chF1 _ _)⟩) hs h
     ·intro b hb W hW
      have hbA:Below W.heap.size W (W.alloc (.cells #[.slice (some ⟨sb,0,none⟩) l.length sc] 36)):=(Below.refl _ _).alloc (Nat.le_refl _) _
      exact Rg.doesRun rfl rfl (by rcases hb with rfl | ⟨u,rfl⟩ <;> rfl) (Rg.exec_buildSlice _ _ _ rfl (.slice (some ⟨sb,0,none⟩) l.length sc) (by rcases hb with rfl | ⟨u,rfl⟩ <;> rfl) (run_build1L W _ ⟨_,_,_,rfl⟩)) ⟨⟨⟨hW.1.1.below hbA,Rg.acc hW.1.2 hbA⟩,by simp; have:=hW.2; omega⟩,Rg.BlkF.new W [.slice (some ⟨sb,0,none⟩) l.length sc] 36 hW.2,hbA⟩
     ·intro b hb W hW
      have hbA:Below W.heap.size W (W.alloc (.cells #[.slice ta (rs.map Ma.ofN).length tc] 22)):=(Below.refl _ _).alloc (Nat.le_refl _) _
      exact Rg.doesRun rfl rfl (by rcases hb with rfl | ⟨u,rfl⟩ | ⟨u,v,rfl⟩ <;> rfl) (Rg.exec_buildSlice _ _ _ rfl (.slice ta (rs.map Ma.ofN).length tc) (by rcases hb with rfl | ⟨u,rfl⟩ | ⟨u,v,rfl⟩ <;> rfl) (run_build1PP W _ ⟨_,_,_,rfl⟩)) ⟨⟨⟨hW.1.1.below hbA,Rg.acc hW.1.2 hbA⟩,by simp; have:=hW.2; omega⟩,Rg.BlkF.new W [.slice ta (rs.map Ma.ofN).length tc] 22 hW.2,hbA⟩
     ·intro u b hb W hW h0 hu
      obtain ⟨pu,rfl,hp0,hp1,hp2⟩:=hu;obtain ⟨a2,c2,X,r1,r2,r3,r4⟩:=h0.ch.pushO hW.1.2.size h0.f5 rfl HOL.out (hp2 0 (by simp)) 27;have hkX:=Rg.Kp.of_grown r3 (M:=fun z=>(Value.slice ova O.length ovc).ownBlock=some z) (fun _ e=>e)
      exact Rg.doesRun rfl rfl (by rcases hb with rfl | ⟨v,rfl⟩ <;> rfl) (Rg.exec_append _ _ _ rfl (by rcases hb with rfl | ⟨v,rfl⟩ <;> rfl) (by rcases hb with rfl | ⟨v,rfl⟩ <;> rfl) r1) ⟨⟨⟨r2.tri,hW.1.2.grown r3 hW.1.2.size (fun j e=>(h0.ch.lts.1 j e).1)⟩,Nat.le_trans hW.2 r3.size⟩,⟨r2,FRows.mono (FRows.kp h0.f6 hkX (fun z g e=>g.2.2.1 e)) r4,_,_,by rw [List.length_map]⟩,fun v hv=>hv.grown r3 (fun j e=>Nat.lt_of_lt_of_le (HLTS.out.1 j e) SZ1.out.le)⟩
     rintro w62 fu fx fv hb hk hj;have hI2_f:=hb.1;have hVsz:=hb.2;clear hb hI;go_frame;have FK:=ι hk;have FJ:=ι hj;obtain ⟨pj,hje,hj0,hj1,hj2⟩:=FJ.out;subst hje;obtain ⟨a2,c2,hfx⟩:=FK.out.2.2;subst hfx;obtain ⟨a3,c3,X3,q1,q2,q3⟩:=FK.out.1.pushR hI2_f.2.size FK.out.2.1 rfl HRLn.out (hj2 0 (by simp)) 52;rw [List.length_map] at q1 q2;have hI3_m:=(show _∧_ from ⟨q2.tri,hI2_f.2.grown q3 hI2_f.2.size (fun j e=>(FK.out.1.lts.2 j e).1)⟩);refine Rg.Any.one (i:=9) (by kernel_rfl) (Rg.Any.run (some 65) rfl rfl rfl (Rg.exec_append _ _ _ rfl rfl rfl q1) (hS _ _ hI3_m) ?_);go_frame;have KX:=ι hI3_m.2;refine Rg.Any.one (i:=11) (by kernel_rfl) (Rg.Any.runSkip none rfl rfl rfl (Rg.exec_store _ _ _ rfl _ rfl _ rfl (Rg.run_storeSl _ infoIntss q2.tri.c1 q2.tri.f1)) (hS2 _ _ rfl) ?_);go_frame;refine Rg.tg 12 11 (.pointer (some ⟨w1.heap.size,2,none⟩)) 67 rfl rfl (.inl ⟨rfl,fun w _=>exec_field _ rfl rfl (chF2 _ _)⟩) (hS2 _ _ rfl) ?_;go_frame
     refine Rg.Any.one (i:=13) (by kernel_rfl) (Rg.Any.runSkip none rfl rfl rfl (Rg.exec_store _ _ _ rfl _ rfl _ rfl (Rg.run_storeSl _ infoPermss (q2.tri.set1 _).c2 (q2.tri.set1 _).f2)) (hS2 _ _ rfl) ?_);go_frame;refine Rg.Any.done (by kernel_rfl) ?_ _;clear hS2;clear hS hI3_m;have hst:=q2.store (.slice a2 (O.length+1) c2) (.slice a3 (R.length+1) c3);have hkk:=(KX.out.setCell (p:=⟨w1.heap.size,1,none⟩) (Nat.le_refl _) (.slice a2 (O.length+1) c2)).setCell (p:=⟨w1.heap.size,2,none⟩) (Nat.le_refl _) (.slice a3 (R.length+1) c3);generalize (X3.setCell ⟨w1.heap.size,1,none⟩ (.slice a2 (O.length+1) c2)).setCell ⟨w1.heap.size,2,none⟩ (.slice a3 (R.length+1) c3)=w99 at *;have CH2:=ι (show ChR w1.heap.size w99 w1.heap.size (.int .i64 ((n:Nat):Int)) (.slice a2 (O.length+1) c2) (.slice a3 (R.length+1) c3) (.slice a2 (O.length+1) c2) (.slice a3 (R.length+1) c3) ((O++[l]).map Ma.ofN) ((R++[rs]).map (List.map Ma.ofN)) by rw [List.map_append,List.map_append]; exact hst)
     have K2:=ι hkk;have HP2:=ι (HPC.out.snoc HA2.out (fun p=>(HA3.out p).trans ((HL.out k HKL.out).orb p)) HRSL.out HRS.out);clear hst hkk q1 q2 q3 KX FK FJ PD;go_wp2
     go_roundw
     case rel=>exact ⟨k+1,_,_,O++[l],R++[rs],by go_num,HKL.out,CH2,K2,HP2⟩
     case measure=>simp [intOf]; have:=HKL.out; omega
  ·obtain rfl:k=n:=by omega
   have hkN:¬ (k:Int)<(k:Int):=by omega
   have TT:=ι (FT.out.below K1.out);go_upto_region 14 with (fail);refine wp_region_list ?_;refine Rg.lr 69 (Rg.exec_load _ _ rfl ⟨w1.heap.size,0,none⟩ rfl (run_loadC CH.out.tri)) ?_;go_frame;refine Rg.list_skip none rfl rfl (Rg.exec_store _ _ _ rfl _ rfl _ rfl (run_storeC _ _ _ _ _ _ _ TT.out)) ?_;go_frame;have hkt:=Rg.Kp.trans (Rg.Kp.trans (Rg.Kp.of_setCell (M:=fun z=>z=w.heap.size) (w:=wr) (a:=⟨w.heap.size,0,none⟩) (v:=.int .i64 ((k:Nat):Int)) rfl) (Rg.Kp.of_setCell (M:=fun z=>z=w.heap.size) (a:=⟨w.heap.size,1,none⟩) (v:=(Value.slice ova O.length ovc)) rfl) (fun _ _ e=>e)) (Rg.Kp.of_setCell (M:=fun z=>z=w.heap.size) (a:=⟨w.heap.size,2,none⟩) (v:=(Value.slice rva R.length rvc)) rfl) (fun _ _ e=>e);have hch:=CH.out.kp hkt (fun z e=>by rw [e]; exact hlo1);have htt:=TT.out.set (.int .i64 ((k:Nat):Int)) (Value.slice ova O.length ovc) (Value.slice rva R.length rvc)
   have hkf:=((((K.out.trans (K1.out.mono K.out.size)).setCell (p:=⟨w.heap.size,0,none⟩) (Nat.le_refl _) (.int .i64 ((k:Nat):Int))).setCell (p:=⟨w.heap.size,1,none⟩) (Nat.le_refl _) (Value.slice ova O.length ovc)).setCell (p:=⟨w.heap.size,2,none⟩) (Nat.le_refl _) (Value.slice rva R.length rvc));have hfin:=HPC.out.isChain HTR.out
   have hfr2:∀ (X:World) (c0 c1 c2 a b:Value),ChR w1.heap.size X w1.heap.size c0 c1 c2 a b (O.map Ma.ofN) (R.map (List.map Ma.ofN))→FRows2 (fun z=>w.heap.size≤z) X b (R.map (List.map Ma.ofN)):=fun _ _ _ _ _ _ h=>by
    obtain ⟨us,h1,h2⟩:=h.frR (by rw [List.length_map,HPC.out.lenR]; omega);exact ⟨us,h1.mono (fun z hz=>by omega),FElts2.mono h2 (fun z hz=>by omega)⟩
   go_wp2;exact bodyPost_ret (results_cellC rfl _ rfl htt) rfl ⟨_,_,rfl,O,FRows.mono (hch.frO (by rw [List.length_map,HPC.out.lenO]; omega)) (fun z hz=>by omega),R,hfr2 _ _ _ _ _ _ hch,hfin,hkf⟩
end Go.Proofs.YthehbckogieimaaGreat

namespace Go.Proofs.YthehbckogieimaaGreat
open Go.RowKit
open Go.Proofs
open Go.Proofs.Ob
open Go.Proofs.Cm (Lv Twr trOf)
attribute [local irreducible] Go.Calls
theorem Wbcl1 (args:Array Value) (w:World):(callFunc 117 args).run Tryz.prog w=.ok (.enter 117 args) w:=by kernel_rfl
theorem Wbcl2 (args:Array Value) (w:World):(callFunc 118 args).run Tryz.prog w=.ok (.enter 118 args) w:=by kernel_rfl
def ChIs (w:World) (cv:Value) (n:Nat) (gs:List (List Nat)):Prop:=∃ ov rv O R,cv=.agg #[.int .i64 ((n:Nat):Int),ov,rv]∧Rg.Rows w ov (O.map Ma.ofN)∧Rows2 w rv (R.map (List.map Ma.ofN))∧Cm.IsChain n (Cm.Gr n (·∈gs)) O R
def zeroC:Value:=.agg #[.int .i64 0,.slice none 0 0,.slice none 0 0]
def ChAns (w:World) (d:Int) (ll:List (List Int)) (cv:Value) (c:Int):Prop:=(c≠0∧cv=zeroC)∨(c=0∧∃ n gs,d=((n:Nat):Int)∧ll=gs.map Ma.ofN∧1≤n∧n≤64∧ChIs w cv n gs)
theorem ChIs.below {w w':World} {cv:Value} {n:Nat} {gs:List (List Nat)} (h:ChIs w cv n gs) (hb:Below w.heap.size w w'):ChIs w' cv n gs:=by
 obtain ⟨ov,rv,O,R,h1,h2,h3,h4⟩:=h;exact ⟨ov,rv,O,R,h1,h2.below hb,h3.below hb,h4⟩
theorem ChAns.below {w w':World} {d:Int} {ll:List (List Int)} {cv:Value} {c:Int} (h:ChAns w d ll cv c) (hb:Below w.heap.size w w'):ChAns w' d ll cv c:=by
 rcases h with h | ⟨h0,n,gs,h1,h2,h3,h4,h5⟩
 ·exact .inl h
 ·exact .inr ⟨h0,n,gs,h1,h2,h3,h4,h5.below hb⟩
theorem build_b {n:Nat} (hn1:1≤n) (hn2:n≤64) {w:World} {v:Value} {gs:List (List Nat)} (hv:Rg.Rows w v (gs.map Ma.ofN)) (hg:∀ s∈gs,Cm.Gd n s) (hgl:gs.length≤1000000) :
  Calls Tryz.prog 117 #[.int .i64 ((n:Nat):Int),v] w fun e w'=>∃ (tb L:Nat) (F':Nat→Prop) (T':Twr) (V':Nat→LV),e=.returned (.pointer (some ⟨tb,0,none⟩))∧TowAt F' L n w' T' V'∧CF F' w' tb 0 (.int .i64 ((n:Nat):Int))∧CF F' w' tb 1 (.slice (some ⟨L,0,none⟩) n n)∧Cm.Built n (·∈gs) T'∧Below w.heap.size w w':=by
 refine (build_any hn1 hn2 (GS.of_rows hv) hg hgl).mono ?_;rintro e w' ⟨tb,L,F',T',V',rfl,hk,h1,h2,h3,h4⟩;exact ⟨tb,L,F',T',V',rfl,h1,h2,h3,h4,hk.kf.below (Nat.le_refl _) (fun _ h=>h)⟩
theorem Rows2.shape {w:World} {v:Value} {lll:List (List (List Int))} (h:Rows2 w v lll):∃ a c,v=.slice a lll.length c:=by
 obtain ⟨us,⟨a,cap,e,_⟩,h2,_⟩:=h;exact ⟨a,cap,by rw [e,h2]⟩
theorem chOf_any (gv:Value) (d:Int) (ll:List (List Int)) (w:World) (h:Rg.Rows w gv ll) :
  Calls Tryz.prog 97 #[.agg #[.int .i64 d,gv]] w fun e w'=>∃ cv,e=.returned (.tuple #[cv,.int .i64 (Ma.gchk d ll)])∧ChAns w' d ll cv (Ma.gchk d ll)∧Below w.heap.size w w':=by
 obtain ⟨ga,gc,rfl,hga,hba⟩:=GI.enter (d) h;have K:=ι hba;have G0:=ι hga;clear h hga hba
 go_enter Tryz.func97,Tryz.ntmps97
 go_upto_region 0 with (fail);refine wp_region_list ?_;refine Rg.lr 1 (Rg.exec_box _ _ rfl rfl) ?_;go_frame;generalize w.alloc (.cells #[.int .i64 d,.slice ga ll.length gc] 24)=w0 at *;have HW0:=ι K.out.size;have hnew:=Tri.new w0 (.int .i64 0) (.slice none 0 0) (.slice none 0 0);refine Rg.lr 2 (exec_allocC rfl) ?_;go_frame;have hb:=(Below.refl w0.heap.size w0).alloc (Nat.le_refl _) (.cells #[.int .i64 0,.slice none 0 0,.slice none 0 0] 54);generalize w0.alloc (.cells #[.int .i64 0,.slice none 0 0,.slice none 0 0] 54)=w1 at *;replace G0:=ι (G0.out.below hb);replace K:=ι (Rg.acc K.out hb);clear hb;have FT:=ι hnew;clear hnew;go_upto_region 1 with (fail);refine wp_region_list ?_;refine Rg.lr 5 (Rg.exec_load (v:=.agg #[.int .i64 d,.slice ga ll.length gc]) _ _ rfl ⟨w.heap.size,0,none⟩ rfl (run_loadG G0.out.c0 G0.out.c1)) ?_;go_frame;refine list_ask (some 6) rfl rfl _ _ (exec_fn1 85 _ _ rfl rfl (vacl0 _ _)) ?_
 refine (orbitCheck_any _ _ _ w1 G0.out.rows).mono ?_;rintro e1 w2 ⟨rfl,hb⟩;refine ⟨_,rfl,?_⟩;go_frame;replace G0:=ι (G0.out.below hb);replace FT:=ι (FT.out.below hb);replace K:=ι (Rg.acc K.out hb);clear hb;refine Rg.la 4 (.int .i64 (Ma.gchk d ll)) ?_;go_frame
 by_cases hz:Ma.gchk d ll=0
 ·obtain ⟨n,gs,hd,hll,hgg,hn1,hn2,hgl⟩:=gchk_ok hz
  have hgd:∀ s∈gs,Cm.Gd n s:=fun s hs=>hgg s hs;have HLL:=ι hll;have HGL:=ι hgl;have HGD:=ι hgd;subst hd;clear hll hgl hgg hgd;go_upto_region 2 with (fail);refine wp_region_list ?_;refine Rg.lm 7 (.int .i64 (Ma.gchk ((n:Nat):Int) ll)) ?_;go_frame;refine Rg.lr 8 (exec_bin (R:=.bool false) .neq _ _ _ rfl rfl rfl (b_neqB _ (decide_eq_false (by omega)))) ?_;go_frame;go_upto_region 4 with (fail);refine wp_region_list ?_;refine Rg.lr 11 (exec_fieldG0 _ rfl rfl) ?_;go_frame;refine Rg.lr 12 (Rg.exec_load (v:=.int .i64 ((n:Nat):Int)) _ _ rfl ⟨w.heap.size,0,none⟩ rfl (run_loadInt G0.out.c0)) ?_;go_frame;refine Rg.lr 13 (exec_fieldG _ rfl rfl) ?_;go_frame;refine Rg.lr 14 (Rg.exec_load (v:=.slice ga ll.length gc) _ _ rfl ⟨w.heap.size,1,none⟩ rfl (Rg.run_loadSl _ _ Tryz.underlying22 G0.out.c1)) ?_;go_frame;have HWB:=ι FT.out.lt;refine list_ask (some 15) rfl rfl _ _ (exec_fn 117 _ _ _ rfl rfl rfl (Wbcl1 _ _)) ?_
  refine (build_b hn1 hn2 (by have:=G0.out.rows; rw [show gs.map Ma.ofN=ll from HLL.out.symm]; exact this) HGD.out (by have:=HGL.out; omega)).mono ?_;rintro e1 w3 ⟨tb,L,F1,T1,V1,rfl,hT1,hc01,hc11,hB1,hb⟩;have HB:=ι hB1;have HWC:=ι (Nat.lt_of_lt_of_le HWB.out hb.size);refine ⟨_,rfl,?_⟩;go_frame;replace G0:=ι (G0.out.below hb);replace FT:=ι (FT.out.below hb);replace K:=ι (Rg.acc K.out hb);clear hb;have HT:=ι hT1;have C0:=ι hc01;have C1:=ι hc11;clear hT1 hc01 hc11 hB1;refine list_ask (some 16) rfl rfl _ _ (exec_fn1 118 _ _ rfl rfl (Wbcl2 _ _)) ?_;refine (chain_any hn1 hn2 HT.out C0.out C1.out (Cm.Gr.isG HGD.out) (HB.out.isTr (by omega) HGD.out) (fun j hj=>(HB.out.full j hj).1)).mono ?_;rintro e1 w4 ⟨ov,rv,O,R,rfl,hO,hR,hCh,hb⟩;obtain ⟨oa,oc,rfl,_⟩:=hO.rows.shape;obtain ⟨ra,rc,rfl⟩:=hR.rows.shape;have HO:=ι hO;have HR:=ι hR;have HCH:=ι hCh
  clear hO hR hCh;refine ⟨_,rfl,?_⟩;go_frame;replace G0:=ι (G0.out.below hb);replace FT:=ι (FT.out.below hb);replace HT:=ι (HT.out.below hb);replace C0:=ι (C0.out.below hb);replace C1:=ι (C1.out.below hb);replace K:=ι (Rg.acc K.out hb);clear hb;refine Rg.list_skip none rfl rfl (Rg.exec_store _ _ _ rfl _ rfl _ rfl (run_storeC _ _ _ _ _ _ _ FT.out)) ?_;go_frame;refine Rg.la 3 (.int .i64 ((0:Nat):Int)) ?_;go_frame;have htt:=FT.out.set (.int .i64 ((n:Nat):Int)) (.slice oa (O.map Ma.ofN).length oc) (.slice ra (R.map (List.map Ma.ofN)).length rc);have hkt:=Rg.Kp.trans (Rg.Kp.trans (Rg.Kp.of_setCell (M:=fun z=>z=w0.heap.size) (w:=w4) (a:=⟨w0.heap.size,0,none⟩) (v:=.int .i64 ((n:Nat):Int)) rfl) (Rg.Kp.of_setCell (M:=fun z=>z=w0.heap.size) (a:=⟨w0.heap.size,1,none⟩) (v:=(.slice oa (O.map Ma.ofN).length oc)) rfl) (fun _ _ e=>e)) (Rg.Kp.of_setCell (M:=fun z=>z=w0.heap.size) (a:=⟨w0.heap.size,2,none⟩) (v:=(.slice ra (R.map (List.map Ma.ofN)).length rc)) rfl) (fun _ _ e=>e)
  have hro:=FRows.rows (FRows.kp HO.out hkt (fun z g e=>by have:=HWC.out; omega));have hrr:=(HR.out.kp hkt (fun z g e=>by have:=HWC.out; omega)).rows;have hkf:=((K.out.setCell (p:=⟨w0.heap.size,0,none⟩) HW0.out (.int .i64 ((n:Nat):Int))).setCell (p:=⟨w0.heap.size,1,none⟩) HW0.out (.slice oa (O.map Ma.ofN).length oc)).setCell (p:=⟨w0.heap.size,2,none⟩) HW0.out (.slice ra (R.map (List.map Ma.ofN)).length rc);generalize ((w4.setCell ⟨w0.heap.size,0,none⟩ (.int .i64 ((n:Nat):Int))).setCell ⟨w0.heap.size,1,none⟩ (.slice oa (O.map Ma.ofN).length oc)).setCell ⟨w0.heap.size,2,none⟩ (.slice ra (R.map (List.map Ma.ofN)).length rc)=w99 at *;have HTT:=ι htt
  have HFI:=ι (show ∃ cv,Ending.returned (.tuple #[.agg #[.int .i64 ((n:Nat):Int),(.slice oa (O.map Ma.ofN).length oc),(.slice ra (R.map (List.map Ma.ofN)).length rc)],.int .i64 0])=.returned (.tuple #[cv,.int .i64 (Ma.gchk ((n:Nat):Int) ll)])∧ChAns w99 ((n:Nat):Int) ll cv (Ma.gchk ((n:Nat):Int) ll)∧Below w.heap.size w w99 from
   ⟨_,by rw [hz],.inr ⟨hz,n,gs,rfl,HLL.out,hn1,hn2,_,_,O,R,rfl,hro,hrr,HCH.out⟩,hkf⟩)
  clear htt hkt hro hrr hkf;go_wp2;exact bodyPost_ret (results_cellC2 (p:=2) (u:=3) rfl _ rfl rfl HTT.out) rfl HFI.out
 ·skip
  go_upto_region 2 with (fail);refine wp_region_list ?_;refine Rg.lm 7 (.int .i64 (Ma.gchk d ll)) ?_;go_frame;refine Rg.lr 8 (exec_bin (R:=.bool true) .neq _ _ _ rfl rfl rfl (b_neqB _ (decide_eq_true (by omega)))) ?_;go_frame;go_upto_region 3 with (fail);refine wp_region_list ?_;refine Rg.lr 9 (exec_buildC0 rfl) ?_;go_frame;refine Rg.lm 10 (.int .i64 (Ma.gchk d ll)) ?_;go_frame;refine Rg.list_skip none rfl rfl (Rg.exec_store _ _ _ rfl _ rfl _ rfl (run_storeC _ _ _ _ _ _ _ FT.out)) ?_;go_frame;refine Rg.la 3 (.int .i64 (Ma.gchk d ll)) ?_;go_frame;have htt:=FT.out.set (.int .i64 0) (.slice none 0 0) (.slice none 0 0);have hkf:=((K.out.setCell (p:=⟨w0.heap.size,0,none⟩) HW0.out (.int .i64 0)).setCell (p:=⟨w0.heap.size,1,none⟩) HW0.out (.slice none 0 0)).setCell (p:=⟨w0.heap.size,2,none⟩) HW0.out (.slice none 0 0);generalize ((w2.setCell ⟨w0.heap.size,0,none⟩ (.int .i64 0)).setCell ⟨w0.heap.size,1,none⟩ (.slice none 0 0)).setCell ⟨w0.heap.size,2,none⟩ (.slice none 0 0)=w99 at *
  have HTT:=ι htt
  have HFI:=ι (show ∃ cv,Ending.returned (.tuple #[zeroC,.int .i64 (Ma.gchk d ll)])=.returned (.tuple #[cv,.int .i64 (Ma.gchk d ll)])∧ChAns w99 d ll cv (Ma.gchk d ll)∧Below w.heap.size w w99 from
   ⟨_,rfl,.inl ⟨hz,rfl⟩,hkf⟩)
  clear htt hkf;go_wp2;exact bodyPost_ret (results_cellC2 (p:=2) (u:=3) rfl _ rfl rfl HTT.out) rfl HFI.out
end Go.Proofs.YthehbckogieimaaGreat

namespace Go.Proofs.YthehbckogieimaaGreat
open Go.RowKit
open Go.Proofs
attribute [local irreducible] Go.Calls
def lg (ll:List (List Int)):Bool:=(ll.take 21).any (fun l=>decide (70<l.length)) || decide (20<ll.length)
end Go.Proofs.YthehbckogieimaaGreat

namespace Go.Proofs.YthehbckogieimaaGreat
open Go.RowKit
open Go.Proofs
open Go.Proofs.Ob
attribute [local irreducible] Go.Calls
theorem SameLists_q (v1 v2:Value) (l1 l2:List (List Int)) (w:World) (h1:Rg.Rows w v1 l1) (h2:Rg.Rows w v2 l2) :
  Calls Tryz.prog 22 #[v1,v2] w fun e w'=>e=.returned (.bool (decide (l1=l2)))∧∃ k,w'=w.drewN k:=by
 obtain ⟨a1,c1,rfl,n1,m1,_,k1⟩:=h1.shape;obtain ⟨a2,c2,rfl,n2,m2,_,k2⟩:=h2.shape;clear h1 h2;have K1:=ι k1;have K2:=ι k2;clear k1 k2;generalize hD:decide (l1=l2)=D;have HD:=ι hD;clear hD
 by_cases hl:l1.length=l2.length
 ·have hb:((l1.length:Int) != (l2.length:Int))=false:=by rw [hl]; simp
  have Hl:=ι hl;clear hl
  go_enter Tryz.func22,Tryz.ntmps22
  go_wp2;clear hb
  go_loopw [5] (fun v wr=>∃ i:Nat,v=.int .i64 i∧i≤l1.length∧Hid (∃ k,wr=w.drewN k)∧Hid (l1.take i=l2.take i)) (fun v _=>l1.length - (intOf v).toNat)
  case atStart=>exact ⟨0,rfl,by omega,⟨0,rfl⟩,by show _=_; simp⟩
  case round =>
   obtain ⟨i,rfl,hi,hw,hs⟩:=hrel
   by_cases hlt:i<l1.length
   ·have hi2:i<l2.length:=by have:=Hl.out; omega
    obtain ⟨b1,o1,rfl,hb1,d1⟩:=K1.out (by omega);obtain ⟨b2,o2,rfl,hb2,d2⟩:=K2.out (by omega);obtain ⟨u1,y1,hu1⟩:=d1 i hlt;obtain ⟨u2,y2,hu2⟩:=d2 i hi2
    have x1:wr.cell? ⟨b1,o1+i,none⟩=some u1:=by obtain ⟨k,e⟩:=hw.out; rw [e]; exact y1
    have x2:wr.cell? ⟨b2,o2+i,none⟩=some u2:=by obtain ⟨k,e⟩:=hw.out; rw [e]; exact y2
    have hlt2:(i:Int)<(l2.length:Int):=by omega
    generalize hx:l1[i]=x at hu1;generalize hy:l2[i]=y at hu2;have Hx:=ι hx;have Hy:=ι hy;clear d1 d2 hx hy y1 y2;have hq:∀ n,_:=fun n=>Same_q u1 u2 x y (wr.drewN n) (by obtain ⟨k,e⟩:=hw.out; rw [e]; exact hu1) (by obtain ⟨k,e⟩:=hw.out; rw [e]; exact hu2)
    by_cases he:x=y
    ·have hdd:decide (x=y)=true:=decide_eq_true he
     have He:=ι he;rw [hdd] at hq;have Hq:=ι hq;clear he hdd hq;go_wp2
     go_quiet ((go_at_call 33; exact Calls.quiet_of (Hq.out _)))
     go_wp2
     go_roundw
     case rel=>exact ⟨i+1,by go_num,by omega,by obtain ⟨k,e⟩:=hw.out; rw [e]; exact ⟨_,World.drewN_drewN _ _ _⟩,by show _=_; rw [List.take_succ_eq_append_getElem hlt,List.take_succ_eq_append_getElem hi2,hs.out,Hx.out,Hy.out,He.out]⟩
     case measure=>simp [intOf]; omega
    ·have hdd:decide (x=y)=false:=decide_eq_false he
     have He:=ι he;rw [hdd] at hq;have Hq:=ι hq;clear he hdd hq;go_wp2
     go_quiet ((go_at_call 33; exact Calls.quiet_of (Hq.out _)))
     go_wp2;go_ret;exact ⟨Rg.ret_bool (by rw [← HD.out]; symm; rw [decide_eq_false_iff_not]; intro hc; subst hc; exact He.out (Hx.out.symm.trans Hy.out)),by obtain ⟨k,e⟩:=hw.out; rw [e]; exact ⟨_,World.drewN_drewN _ _ _⟩⟩
   ·go_wp2
    go_ret;refine ⟨Rg.ret_bool ?_,hw.out⟩;rw [← HD.out]; symm;rw [decide_eq_true_eq];have h1:=hs.out
    rwa [List.take_of_length_le (by omega),List.take_of_length_le (by have:=Hl.out; omega)] at h1
 ·have hb:((l1.length:Int) != (l2.length:Int))=true:=by rw [bne_iff_ne]; omega
  have Hl:=ι hl;clear hl
  go_enter Tryz.func22,Tryz.ntmps22
  go_wp2;go_ret;exact ⟨Rg.ret_bool (by rw [← HD.out]; symm; rw [decide_eq_false_iff_not]; intro hc; subst hc; exact Hl.out rfl),0,rfl⟩
theorem SameLists_b {v1 v2:Value} {l1 l2:List (List Int)} {w:World} {b:Bool} (h1:Rg.Rows w v1 l1) (h2:Rg.Rows w v2 l2) (hd:Hid (decide (l1=l2)=b)) :
  Calls Tryz.prog 22 #[v1,v2] w fun e w'=>e=.returned (.bool b)∧Below w.heap.size w w':=by
 refine (SameLists_q v1 v2 l1 l2 w h1 h2).mono ?_;rintro e w' ⟨rfl,k,rfl⟩;exact ⟨by rw [hd.out],Rg.drewN (Below.refl _ _) k⟩
theorem GI.fresh {w:World} {d:Int} {a:Option Addr} {ll:List (List Int)} {c:Nat} (h:Rg.Rows w (.slice a ll.length c) ll) :
  ∃ W,(storeVar 24 ⟨w.heap.size,0,none⟩ (.agg #[.int .i64 d,.slice a ll.length c])).run Tryz.prog (w.alloc (.cells #[.int .i64 0,.slice none 0 0] 24))=.ok () W∧GI W w.heap.size d a ll c∧Below w.heap.size w W:=by
 have n0:(w.alloc (.cells #[.int .i64 0,.slice none 0 0] 24)).cell? ⟨w.heap.size,0,none⟩=some (.int .i64 0):=by rw [Rg.cellNew]; rfl
 have n1:(w.alloc (.cells #[.int .i64 0,.slice none 0 0] 24)).cell? ⟨w.heap.size,1,none⟩=some (.slice none 0 0):=by rw [Rg.cellNew]; rfl
 obtain ⟨p0,p1,p2⟩:=group_set (.int .i64 d) (.slice a ll.length c) n0 n1 ((Below.refl w.heap.size w).alloc (Nat.le_refl _) _) (Nat.le_refl _);exact ⟨_,run_storeG _ a _ c n0 n1 (frozenNewN _ _ _ 0 _) (frozenNewN _ _ _ 0 _),⟨p0,p1,Rg.Rows.below h p2,by simp⟩,p2⟩
theorem SameGroup_b {v1 v2:Value} {d:Int} {l:List (List Int)} {w:World} (h1:Rg.Rows w v1 l) (h2:Rg.Rows w v2 l) :
  Calls Tryz.prog 100 #[.agg #[.int .i64 d,v1],.agg #[.int .i64 d,v2]] w fun e w'=>e=.returned (.bool true)∧Below w.heap.size w w':=by
 refine (SameGroup_any v1 v2 d d l l h1 h2 (Below.refl w.heap.size w)).mono ?_;rintro e w' ⟨rfl,hb⟩;exact ⟨by unfold sameG; simp,hb⟩
end Go.Proofs.YthehbckogieimaaGreat

namespace Go.Proofs.YthehbckogieimaaGreat
open Go.RowKit
open Go.Proofs
open Go.Proofs.Ob
open Go.Proofs.Cm (Lv Twr trOf)
attribute [local irreducible] Go.Calls
theorem Rows2.nil (w:World) (a:Option Addr) (c:Nat) (hc:c≤maxLen):Rows2 w (.slice a 0 c) []:=⟨[],Rg.Vals.nil w a c hc,rfl,fun i h=>by simp at h⟩
end Go.Proofs.YthehbckogieimaaGreat

namespace Go.Proofs.YthehbckogieimaaGreat
open Go.RowKit
open Go.Proofs
open Go.Proofs.Cm (Tr)
attribute [local irreducible] Go.Calls Go.wpList
structure RowF (F:Nat→Prop) (B:Nat) (W:World) (v:Value) (l:List (List Nat)):Prop where
 size:B≤W.heap.size
 own:∃ us,W.ownsRow B 51 1 v l.length us∧Rg.FElts F W us (l.map Ma.ofN)
theorem RowF.nil (F:Nat→Prop) {B:Nat} {W:World} (h:B≤W.heap.size):RowF F B W (.slice none 0 0) []:=⟨h,[],World.ownsRow_nil _ _ _ _,Rg.FElts.nil _ _⟩
theorem RowF.below {F:Nat→Prop} {B:Nat} {W W':World} {v:Value} {l:List (List Nat)} (h:RowF F B W v l) (hb:Below W.heap.size W W'):RowF F B W' v l:=by
 obtain ⟨us,h1,h2⟩:=h.own;exact ⟨Nat.le_trans h.size hb.size,us,Rg.row_below h1 hb,h2.kp (M:=fun _=>False) (Rg.Kp.of_below hb) (fun _ _=>id)⟩
theorem RowF.shape {F:Nat→Prop} {B:Nat} {W:World} {v:Value} {l:List (List Nat)} (h:RowF F B W v l):∃ a c,v=.slice a l.length c:=by
 obtain ⟨us,h1,_⟩:=h.own;exact Rg.row_shape h1
theorem RowF.pushK {F:Nat→Prop} {B:Nat} {W:World} {v:Value} {l:List (List Nat)} (h:RowF F B W v l) (hF:∀ k,F k→k<B) {u:Value} {x:List Nat} (hu:FP F W u x) (hs:∃ a m c,u=.slice a m c) (hn:l.length<1000000) (ty:TypeId) :
  ∃ a c X,(Builtin.append_ #[22,22] ty #[v,.slice (some ⟨W.heap.size,0,none⟩) 1 1]).run Tryz.prog (W.alloc (.cells #[u] 51))=.ok (.slice a (l.length+1) c) X∧RowF F B X (.slice a (l.length+1) c) (l++[x])∧(∀ {B':Nat} {W0:World},B'≤B→Below B' W0 W→Below B' W0 X)∧Rg.Kp (fun k=>v.ownBlock=some k) W X:=by
 obtain ⟨us,h1,h2⟩:=h.own;obtain ⟨a0,m0,c0,rfl⟩:=hs;have hb:Below W.heap.size W (W.alloc (.cells #[.slice a0 m0 c0] 51)):=(Below.refl _ _).alloc (Nat.le_refl _) _;obtain ⟨v',X,r1,r2,r3,r4,a,c,rfl⟩:=app_run (P:=Tryz.prog) slPerms ty (Rg.row_below h1 hb) (Nat.le_trans h.size hb.size) W.heap.size 1 (u:=.slice a0 m0 c0) (by rw [Rg.cellNew]; rfl) rfl hn;have hk:Rg.Kp (fun k=>v.ownBlock=some k) W X:=Rg.Kp.trans (M:=fun k=>v.ownBlock=some k) ((Rg.Kp.of_below hb).weak fun _=>False.elim) (Rg.Kp.of_grown r3 fun _ e=>e) (fun _ _ e=>e)
 have hg:∀ k,F k→¬ v.ownBlock=some k:=fun k g e=>by have:=hF k g; have:=(h1.lt k e).1; omega
 refine ⟨a,c,X,r1,⟨Nat.le_trans h.size hk.size,us++[.slice a0 m0 c0],by rw [List.length_append]; exact r2,by rw [List.map_append]; exact FElts.snoc (h2.kp hk hg) (Rg.FI.kp hu hk hg)⟩,fun {B' W0} hB' hb0=>?_,hk⟩;refine (hb0.trans ⟨hk.os,hk.tape,hk.output,hk.size,fun k hk'=>hk.block k ?_ fun e=>?_⟩)
 ·have:=h.size; omega
 ·have:=(h1.lt k e).1; omega
theorem RowF.push {F:Nat→Prop} {B:Nat} {W:World} {v:Value} {l:List (List Nat)} (h:RowF F B W v l) (hF:∀ k,F k→k<B) {u:Value} {x:List Nat} (hu:FP F W u x) (hs:∃ a m c,u=.slice a m c) (hn:l.length<1000000) (ty:TypeId) :
  ∃ a c X,(Builtin.append_ #[22,22] ty #[v,.slice (some ⟨W.heap.size,0,none⟩) 1 1]).run Tryz.prog (W.alloc (.cells #[u] 51))=.ok (.slice a (l.length+1) c) X∧RowF F B X (.slice a (l.length+1) c) (l++[x])∧(∀ {B':Nat} {W0:World},B'≤B→Below B' W0 W→Below B' W0 X):=by
 obtain ⟨a,c,X,r1,r2,r3,_⟩:=h.pushK hF hu hs hn ty;exact ⟨a,c,X,r1,r2,r3⟩
end Go.Proofs.YthehbckogieimaaGreat

namespace Go.Proofs.YthehbckogieimaaGreat
open Go.Proofs
open Go.Proofs.Cm (Tr Gr Gd Sd sfP)
theorem nodup_le {α:Type} [DecidableEq α]:∀ {l m:List α},l.Nodup→(∀ x∈l,x∈m)→l.length≤m.length
 | [],_,_,_=>Nat.zero_le _
 | a :: l,m,nd,h=>by
  have ha:=h a (List.mem_cons_self ..);have h1:=nodup_le (l:=l) (m:=m.erase a) (List.nodup_cons.1 nd).2 (fun x hx=>(List.mem_erase_of_ne (fun e:x=a=>(List.nodup_cons.1 nd).1 (by rw [← e]; exact hx))).2 (h x (List.mem_cons_of_mem _ hx)));rw [List.length_erase_of_mem ha] at h1;have h2:=List.length_pos_of_mem ha;simp only [List.length_cons]; omega
end Go.Proofs.YthehbckogieimaaGreat

namespace Go.Proofs.YthehbckogieimaaGreat
open Go.RowKit
open Go.Proofs
open Go.Proofs.Cm (Tr)
theorem appL5 {P:Program} {t e:TypeId} {z:Value} {bytes:Nat} (T:Rg.SlT P t e z bytes) (ty:TypeId) {B:Nat} {X:World} {v xv:Value} {n:Nat} {xs us:List Value} (hown:X.ownsRow B e 1 v n xs) (hX:B≤X.heap.size)
  (hus:Rg.Vals X xv us) (h1:∀ u∈us,u.oneCell'=true) (hn:n+us.length<1000000000) :
  ∃ v' X',(Builtin.append_ #[t,t] ty #[v,xv]).run P X=.ok v' X'∧X'.ownsRow B e 1 v' (n+us.length) (xs++us)∧X.grownBy X' v.ownBlock∧(v'.ownBlock=v.ownBlock∨v'.ownBlock=some X.heap.size):=by
 obtain ⟨i0,hi,hz0,hz1,hz2⟩:=info_parts T.info;obtain ⟨ad,cap,rfl,q2,q3,q4,q5⟩:=hus
 cases ad with
 | none =>
  have h0:us=[]:=by
   cases us with
   | nil=>rfl
   | cons u r=>obtain ⟨b,o,e1,_⟩:=q5 (by simp); cases e1
  subst h0;exact ⟨v,X,Rg.append_none (P:=P) (w:=X) B t ty e i0 1 cap T.ty hi v n xs hown,by simpa using hown,⟨rfl,rfl,rfl,Nat.le_refl _,fun _ _ _=>rfl⟩,.inl rfl⟩
 | some ad =>
  obtain ⟨v',w',hr,h2,h3,h4,h5⟩:=run_append_own_at (P:=P) X B t ty e i0 z 1 bytes T.ty hi hz0 hz1 hz2 T.zc (by decide) v n xs hown ad us.length cap us (by omega) (fun j u hu=>by
   have hj:=(List.getElem?_eq_some_iff.1 hu).1;obtain ⟨b,o,e1,e2,e3⟩:=q5 (by omega);simp at e1; subst e1
   rw [Addr.add_mid,e3 j hj,← hu,List.getElem?_eq_getElem hj]) h1 (by unfold maxLen; omega) (by have:(n+us.length)*bytes≤1000000000*64:=Nat.mul_le_mul (by omega) T.small; omega) hX
  exact ⟨v',w',hr,h2,h3,h5⟩
structure RowG (F M:Nat→Prop) (W:World) (v:Value) (l:List (List Nat)):Prop where
 own:∃ B us,B≤W.heap.size∧W.ownsRow B 51 1 v l.length us∧Rg.FElts F W us (l.map Ma.ofN)
 off:∀ k,v.ownBlock=some k→¬ F k∧¬ M k
theorem RowF.g {F M:Nat→Prop} {B:Nat} {W:World} {v:Value} {l:List (List Nat)} (h:RowF F B W v l) (hF:∀ k,F k→k<B) (hM:∀ k,M k→k<B):RowG F M W v l:=by
 obtain ⟨us,h1,h2⟩:=h.own;refine ⟨⟨B,us,h.size,h1,h2⟩,fun k e=>?_⟩;have:=(h1.lt k e).1;exact ⟨fun g=>by have:=hF k g; omega,fun g=>by have:=hM k g; omega⟩
theorem RowG.lt {F M:Nat→Prop} {W:World} {v:Value} {l:List (List Nat)} (h:RowG F M W v l):∀ k,v.ownBlock=some k→k<W.heap.size:=fun k e=>by
 obtain ⟨B,us,h0,h1,h2⟩:=h.own;exact (h1.lt k e).2
theorem RowG.up {F M:Nat→Prop} {W W':World} {v:Value} {l:List (List Nat)} (h:RowG F M W v l) (hb:Below W.heap.size W W'):RowG (Fup F W W') M W' v l:=by
 obtain ⟨B,us,h0,h1,h2⟩:=h.own;refine ⟨⟨B,us,Nat.le_trans h0 hb.size,Rg.row_below h1 hb,(h2.kp (M:=fun _=>False) (Rg.Kp.of_below hb) (fun _ _=>id)).mono fun _=>.inl⟩,fun k e=>⟨fun g=>?_,(h.off k e).2⟩⟩;have:=h.lt k e
 rcases g with g | g
 ·exact (h.off k e).1 g
 ·omega
theorem RowG.shape {F M:Nat→Prop} {W:World} {v:Value} {l:List (List Nat)} (h:RowG F M W v l):∃ a c,v=.slice a l.length c:=by
 obtain ⟨B,us,h0,h1,h2⟩:=h.own;exact Rg.row_shape h1
theorem RowG.at {F M:Nat→Prop} {W:World} {v:Value} {l:List (List Nat)} (h:RowG F M W v l) {i:Nat} (hi:i<l.length):∃ g c u,v=.slice (some ⟨g,0,none⟩) l.length c∧CL W g (0+i) u∧FP F W u l[i]:=by
 obtain ⟨B,us,h0,h1,h2⟩:=h.own;obtain ⟨g,c,u,e1,e2,e3,e4⟩:=row_of h1 hi;obtain ⟨hu,rfl⟩:=List.getElem?_eq_some_iff.1 e3;have:=h2.2 i hu (by rw [List.length_map]; exact hi);rw [List.getElem_map] at this;exact ⟨g,c,us[i],e1,⟨e2,e4⟩,this⟩
theorem RowG.app {F M:Nat→Prop} {W:World} {v v2:Value} {l m:List (List Nat)} {B2:Nat} (h:RowG F M W v l) (h2:RowF F B2 W v2 m) (hF:∀ k,F k→k<W.heap.size) (hM:∀ k,M k→k<W.heap.size) (hn:l.length+m.length<1000000) (ty:TypeId) :
  ∃ a c X,(Builtin.append_ #[22,22] ty #[v,v2]).run Tryz.prog W=.ok (.slice a (l.length+m.length) c) X∧RowG F M X (.slice a (l.length+m.length) c) (l++m)∧Rg.Kp (fun k=>v.ownBlock=some k) W X:=by
 obtain ⟨B,us,h0,h1,h3⟩:=h.own;obtain ⟨us2,g1,g2⟩:=h2.own
 have hl:us2.length=m.length:=by have:=g2.1; rwa [List.length_map] at this
 obtain ⟨v',X,r1,r2,r3,r4⟩:=appL5 (P:=Tryz.prog) slPerms ty h1 h0 (Rg.Vals.of_row g1 (by omega)) g2.oneCell (by omega);have hk:Rg.Kp (fun k=>v.ownBlock=some k) W X:=Rg.Kp.of_grown r3 fun _ e=>e;rw [hl] at r2;obtain ⟨a,c,rfl⟩:=Rg.row_shape r2;have hg:∀ k,F k→¬ v.ownBlock=some k:=fun k g e=>(h.off k e).1 g;refine ⟨a,c,X,r1,⟨⟨B,us++us2,Nat.le_trans h0 hk.size,by rw [List.length_append]; exact r2,by rw [List.map_append]; exact (h3.kp hk hg).app (g2.kp hk hg)⟩,fun k e=>?_⟩,hk⟩
 rcases r4 with r4 | r4
 ·exact h.off k (by rw [← r4]; exact e)
 ·rw [r4] at e
  injection e with e
  subst e;exact ⟨fun g=>by have:=hF _ g; omega,fun g=>by have:=hM _ g; omega⟩
end Go.Proofs.YthehbckogieimaaGreat

namespace Go.Proofs.YthehbckogieimaaGreat
open Go.RowKit
open Go.Proofs
open Go.Proofs.Cm (Tr)
attribute [local irreducible] Go.Calls
theorem RowF.at {F:Nat→Prop} {B:Nat} {W:World} {v:Value} {l:List (List Nat)} (h:RowF F B W v l) {i:Nat} (hi:i<l.length):∃ g c u,v=.slice (some ⟨g,0,none⟩) l.length c∧CL W g (0+i) u∧FP F W u l[i]:=by
 obtain ⟨us,h1,h2⟩:=h.own;obtain ⟨g,c,u,e1,e2,e3,e4⟩:=row_of h1 hi;obtain ⟨hu,rfl⟩:=List.getElem?_eq_some_iff.1 e3;have:=h2.2 i hu (by rw [List.length_map]; exact hi);rw [List.getElem_map] at this;exact ⟨g,c,us[i],e1,⟨e2,e4⟩,this⟩
end Go.Proofs.YthehbckogieimaaGreat

namespace Go.Proofs.YthehbckogieimaaGreat
open Go.RowKit
open Go.Proofs
open Go.Proofs.Cm (Tr)
attribute [local irreducible] Go.Calls Go.wpList
theorem RowF.mono {F F':Nat→Prop} {B:Nat} {W:World} {v:Value} {l:List (List Nat)} (h:RowF F B W v l) (hF:∀ k,F k→F' k):RowF F' B W v l:=by
 obtain ⟨us,h1,h2⟩:=h.own;exact ⟨h.size,us,h1,h2.mono hF⟩
theorem RowG.rows {F M:Nat→Prop} {W:World} {v:Value} {l:List (List Nat)} (h:RowG F M W v l) (hl:l.length≤1000000000):Rg.Rows W v (l.map Ma.ofN):=by
 obtain ⟨B,us,h0,h1,h2⟩:=h.own;have e:us.length=(l.map Ma.ofN).length:=h2.1;exact Rg.Rows.of_row h1 hl e fun i a b=>(h2.2 i a b).ints

theorem OwI.shape {B:Nat} {W:World} {v:Value} {l:List Int} (h:OwI B W v l):∃ a c,v=.slice a l.length c:=Rg.row_shape h.own
theorem OwI.nil (B:Nat) (W:World):OwI B W (.slice none 0 0) []:=⟨World.ownsRow_nil _ _ _ _⟩
theorem OwI.push {B:Nat} {W:World} {v:Value} {l:List Int} (h:OwI B W v l) (hB:B≤W.heap.size) (x:Int) (hn:l.length<1000000) (ty:TypeId) :
  ∃ a c X,(Builtin.append_ #[36,36] ty #[v,.slice (some ⟨W.heap.size,0,none⟩) 1 1]).run Tryz.prog (W.alloc (.cells #[.int .i64 x] 3))=.ok (.slice a (l.length+1) c) X∧OwI B X (.slice a (l.length+1) c) (l++[x])∧(∀ {B':Nat} {W0:World},B'≤B→Below B' W0 W→Below B' W0 X):=by
 have hb:Below W.heap.size W (W.alloc (.cells #[.int .i64 x] 3)):=(Below.refl _ _).alloc (Nat.le_refl _) _;obtain ⟨v',X,r1,r2,r3,r4,a,c,rfl⟩:=app_run (P:=Tryz.prog) slInts ty (Rg.row_below h.own hb) (Nat.le_trans hB hb.size) W.heap.size 1 (u:=.int .i64 x) (by rw [Rg.cellNew]; rfl) rfl hn;refine ⟨a,c,X,r1,⟨by rw [List.length_append,List.map_append]; exact r2⟩,fun {B' W0} hB' hb0=>?_⟩;exact (hb0.alloc (Nat.le_trans hB' hB) _).grown r3 (Nat.le_trans (Nat.le_trans hB' hB) hb.size) (fun j hj=>Nat.le_trans hB' ((Rg.row_below h.own hb).lt j hj).1)

theorem OwI.up {B:Nat} {W W':World} {v:Value} {l:List Int} (h:OwI B W v l) (hb:Below W.heap.size W W'):OwI B W' v l:=h.below hb
theorem OwI.at {B:Nat} {W:World} {a:Option Addr} {m c:Nat} {l:List Nat} (h:OwI B W (.slice a m c) (Ma.ofN l)) {k:Nat} (hk:k<l.length):∃ g,a=some ⟨g,0,none⟩∧CL W g (0+k) (.int .i64 ((l[k]:Nat):Int)):=by
 obtain ⟨g,c',u,e1,e2,e3,e4⟩:=row_of h.own (k:=k) (by rw [Ma.len_ofN]; exact hk)
 injection e1 with e1 _ _
 refine ⟨g,e1,?_,e4⟩;rw [e2,← e3];simp [Ma.ofN,List.getElem?_eq_getElem hk]
end Go.Proofs.YthehbckogieimaaGreat

namespace Go.Proofs.YthehbckogieimaaGreat
open Go.RowKit
open Go.Proofs
open Go.Proofs.Ob
open Go.Proofs.Cm (Tr)
attribute [local irreducible] Go.Calls Go.wpList
theorem FRows2.mono {F F':Nat→Prop} {w:World} {v:Value} {lll:List (List (List Int))} (h:FRows2 F w v lll) (hF:∀ k,F k→F' k):FRows2 F' w v lll:=by
 obtain ⟨us,h1,h2⟩:=h;exact ⟨us,h1.mono hF,FElts2.mono h2 hF⟩
theorem ChAns.shape {w:World} {d:Int} {ll:List (List Int)} {cv:Value} {c:Int} (h:ChAns w d ll cv c):∃ e a n k a' n' k',cv=.agg #[.int .i64 e,.slice a n k,.slice a' n' k']:=by
 rcases h with ⟨_,rfl⟩ | ⟨h0,n,gs,h1,h2,h3,h4,ov,rv,O,R,h5,h6,h7,h8⟩
 ·exact ⟨_,_,_,_,_,_,_,rfl⟩
 ·obtain ⟨oa,oc,rfl,_⟩:=h6.shape
  obtain ⟨ra,rc,rfl⟩:=h7.shape;exact ⟨_,_,_,_,_,_,_,h5⟩
theorem GS.kg {F F':Nat→Prop} {w w':World} {v:Value} {gs:List (List Nat)} (h:GS F w v gs) (hk:KG F w F' w'):GS F' w' v gs:=by
 obtain ⟨a,c,e,h1⟩:=h;refine ⟨a,c,e,fun h0=>?_⟩;obtain ⟨b,o,e2,h2⟩:=h1 h0;refine ⟨b,o,e2,fun k hk2=>?_⟩;obtain ⟨u,h3,h4⟩:=h2 k hk2;exact ⟨u,h3.kg hk,h4.kg hk⟩
theorem GS.at {F:Nat→Prop} {w:World} {b o n c:Nat} {gs:List (List Nat)} (h:GS F w (.slice (some ⟨b,o,none⟩) n c) gs) {k:Nat} (hk:k<gs.length):∃ u,CF F w b (o+k) u∧FP F w u gs[k]:=by
 obtain ⟨a,c',e,h1⟩:=h;obtain ⟨b',o',e2,h2⟩:=h1 (by omega)
 injection e with e3 _ _
 rw [e2] at e3;simp only [Option.some.injEq,Addr.mk.injEq,and_true] at e3;obtain ⟨rfl,rfl⟩:=e3;exact h2 k hk
end Go.Proofs.YthehbckogieimaaGreat

namespace Go.Proofs.YthehbckogieimaaGreat
open Go.RowKit
open Go.Proofs
open Go.Proofs.Ob
attribute [local irreducible] Go.Calls Go.wpList
def ChEqR (w:World) (ov rv:Value) (OO:List (List Int)) (RR:List (List (List Int))):Prop:=Rg.Rows w ov OO∧Rows2 w rv RR
theorem ChEqR.below {w w':World} {ov rv:Value} {OO:List (List Int)} {RR:List (List (List Int))} (h:ChEqR w ov rv OO RR) (hb:Below w.heap.size w w'):ChEqR w' ov rv OO RR:=⟨h.1.below hb,h.2.below hb⟩
end Go.Proofs.YthehbckogieimaaGreat

namespace Go.Proofs.RF
open Go Go.RowKit
def Dfr (D:Nat) (W:World):Prop:=W.heap[D]?=some (.deferred (some []))
theorem Dfr.size {D:Nat} {W:World} (h:Dfr D W):D<W.heap.size:=(Array.getElem?_eq_some_iff.1 h).1
theorem Dfr.alloc {D:Nat} {W:World} (h:Dfr D W) (o:Obj):Dfr D (W.alloc o):=(Below.heap_alloc W o D h.size).trans h
theorem Dfr.drew {D:Nat} {W:World} (h:Dfr D W):Dfr D W.drew:=h
theorem Dfr.setCell {D:Nat} {W:World} (h:Dfr D W) (a:Addr) (v:Value):Dfr D (W.setCell a v) :=
 (KeepsOthers.setCell W a v).same D _ h rfl
theorem Dfr.cell {D:Nat} {o:Option (List Deferred)} {W:World} (h:Dfr D W) (a:Addr):(W.putObj D (.deferred o)).cell? a=W.cell? a:=by
 unfold World.cell?
 by_cases e:a.block=D
 ·rw [e,World.putObj_heap_same h.size,show W.heap[D]?=_ from h]
 ·rw [World.putObj_heap_other e]
theorem Dfr.frozen {D:Nat} {o:Option (List Deferred)} {W:World} (h:Dfr D W) (a:Addr):(W.putObj D (.deferred o)).frozen? a=W.frozen? a:=by
 unfold World.frozen?
 by_cases e:a.block=D
 ·rw [e,World.putObj_heap_same h.size,show W.heap[D]?=_ from h]
 ·rw [World.putObj_heap_other e]
def mark (D:Nat):Deferred:={ target:=.collected D,args:=#[] }
theorem leaves {n:Nat} {P:Program} {fn:Func} {tmps:Array Value} {R:Ending→World→Prop} (B:Nat):∀ (ds:List Nat) (W:World),ds.Nodup→(∀ D,D∈ds→Dfr D W∧B≤D) →
  (∀ W',Below B W W'→(∀ a,W'.cell? a=W.cell? a)→(∀ a,W'.frozen? a=W.frozen? a)→∃ v,(results fn tmps).run P W'=.ok v W'∧R (.returned v) W') →
  LeavesInM Fence.wide n P fn tmps R (ds.map mark) .returning W
 | [],W,_,_,h=>h W (Below.refl _ _) (fun _=>rfl) (fun _=>rfl)
 | D :: ds,W,hn,hD,h=>by
  rw [List.nodup_cons] at hn;obtain ⟨hd,hB⟩:=hD D (by simp);have hb:Below B W (W.putObj D (.deferred none)):=⟨rfl,rfl,rfl,by simp,fun k hk=>World.putObj_heap_other (by omega)⟩;refine ⟨by simp,.inl ⟨D,_,rfl,run_takeDeferred hd,leaves B ds _ hn.2 (fun D' hD'=>?_) (fun W' h1 h2 h3=>?_)⟩⟩
  ·refine ⟨(World.putObj_heap_other ?_).trans (hD D' (by simp [hD'])).1,(hD D' (by simp [hD'])).2⟩
   intro e; exact hn.1 (e▸hD')
  ·exact h W' (hb.trans h1) (fun a=>(h2 a).trans (hd.cell a)) (fun a=>(h3 a).trans (hd.frozen a))
end Go.Proofs.RF
namespace Go.Proofs.YthehbckogieimaaGreat
open Go.RowKit
open Go.Proofs
open Go.Shelf
attribute [local irreducible] Go.Calls Go.wpList
structure KK (B n₀:Nat) (W W':World):Prop where
 keeps:KeepsFrom B W W'
 bel:Below n₀ W W'
 le:n₀≤W.heap.size
theorem KK.refl {B n₀:Nat} {W:World} (h:n₀≤W.heap.size):KK B n₀ W W:=⟨KeepsFrom.refl _ _,Below.refl _ _,h⟩
theorem KK.acc {B n₀:Nat} {W W' W'':World} (h:KK B n₀ W W') (hb:Below W'.heap.size W' W''):KK B n₀ W W'' :=
 ⟨h.keeps.trans ⟨hb.size,fun k o _ hk _=>(hb.block k (Array.getElem?_eq_some_iff.1 hk).1).trans hk⟩,h.bel.trans (hb.mono (Nat.le_trans h.le h.bel.size)),h.le⟩
theorem KK.set {B n₀:Nat} {W W':World} (h:KK B n₀ W W') {b o:Nat} (v:Value) (hb:n₀≤b):KK B n₀ W (W'.setCell ⟨b,o,none⟩ v) :=
 ⟨h.keeps.trans ((KeepsOthers.setCell _ _ _).from _),h.bel.setCell (p:=⟨b,o,none⟩) hb v,h.le⟩
theorem KK.grown {B n₀:Nat} {W W' W'':World} (h:KK B n₀ W W') {e:TypeId} {v:Value} {n size:Nat} {xs:List Value} (hr:W'.ownsRow n₀ e size v n xs) (hg:W'.grownBy W'' v.ownBlock):KK B n₀ W W'' :=
 ⟨h.keeps.trans ((KeepsOthers.of_grownBy hg (fun j o e1 e2=>by
  obtain ⟨_,h2⟩:=hr
  rcases h2 with ⟨h3,_⟩ | ⟨g,cap,cur,h3,hg0,hc,_⟩
  ·rw [h3] at e1; simp [Value.ownBlock] at e1
  ·rw [h3] at e1
   simp [Value.ownBlock] at e1;subst e1;rw [hc] at e2
   cases e2; rfl)).from _),h.bel.grown hg (Nat.le_trans h.le h.bel.size) (fun j hj=>(hr.lt j hj).1),h.le⟩
end Go.Proofs.YthehbckogieimaaGreat

namespace Go.Proofs.YthehbckogieimaaGreat
open Go.Proofs
open Go.Proofs.Cm (Gr Gd IsChain IsG St)
theorem getD_inf {α:Type} {l:List (List α)} {i:Nat} (h:i<l.length):l.getD i []=l[i]:=by rw [List.getD_eq_getElem?_getD,List.getElem?_eq_getElem h]; rfl
theorem map_ofN_inj:∀ {a b:List (List Nat)},a.map Ma.ofN=b.map Ma.ofN→a=b
 | [],[],_=>rfl
 | [],_ :: _,h=>by simp at h
 | _ :: _,[],h=>by simp at h
 | x :: a,y :: b,h=>by
  simp only [List.map_cons,List.cons.injEq] at h;rw [Ma.ofN_inj h.1,map_ofN_inj h.2]
end Go.Proofs.YthehbckogieimaaGreat

namespace Go.Proofs.YthehbckogieimaaGreat
open Go.RowKit
open Go.Proofs
open Go.Proofs.Ob
open Go.Shelf
open Go.Proofs.Cm (Lv Twr trOf)
attribute [local go_sem] Oper.semAt_some
attribute [local irreducible] Go.Calls Go.wpList Go.wpListIn
theorem CL.kp {M:Nat→Prop} {w w':World} {b o:Nat} {v:Value} (h:CL w b o v) (hk:Rg.Kp M w w') (hM:¬ M b):CL w' b o v :=
 ⟨(World.cell?_of_block (a:=⟨b,o,none⟩) (hk.block b h.lt hM)).trans h.cell,Nat.lt_of_lt_of_le h.lt hk.size⟩
theorem CL.upto {B:Nat} {w w':World} {b o:Nat} {v:Value} (h:CL w b o v) (hb:Below B w w') (hB:b<B):CL w' b o v:=⟨(hb.cell (p:=⟨b,o,none⟩) hB).trans h.cell,Nat.lt_of_lt_of_le h.lt hb.size⟩
theorem ChEqR.mk {w:World} {ov rv:Value} {OO:List (List Int)} {RR:List (List (List Int))} (h1:Rg.Rows w ov OO) (h2:Rows2 w rv RR):ChEqR w ov rv OO RR:=⟨h1,h2⟩
theorem ChEqR.upto {w w':World} {ov rv:Value} {OO:List (List Int)} {RR:List (List (List Int))} (h:ChEqR w ov rv OO RR) (hb:Below w.heap.size w w'):ChEqR w' ov rv OO RR:=h.below hb
theorem KK.below {B n₀:Nat} {W W' W'':World} (h:KK B n₀ W W') (hb:Below W'.heap.size W' W''):KK B n₀ W W'':=h.acc hb
theorem KK.row {B n₀:Nat} {W W1 X:World} {F:Nat→Prop} {B2:Nat} {v:Value} {gs:List (List Nat)} (h:KK B n₀ W W1) (hk:Rg.Kp (fun k=>v.ownBlock=some k) W1 X) (hr:RowF F B2 W1 v gs) (hn:n₀≤B2):KK B n₀ W X:=by
 obtain ⟨us,q1,q2⟩:=hr.own
 have hcells:∀ j o,v.ownBlock=some j→W1.heap[j]?=some o→o.isCells=true:=fun j o e1 e2=>by
  obtain ⟨_,h3⟩:=q1
  rcases h3 with ⟨h4,_⟩ | ⟨g,cap,cur,h4,_,h5,_⟩
  ·rw [h4] at e1; simp [Value.ownBlock] at e1
  ·rw [h4] at e1
   simp [Value.ownBlock] at e1;subst e1;rw [h5] at e2
   cases e2; rfl
 refine ⟨h.keeps.trans ⟨hk.size,fun k o _ hk2 ho=>(hk.block k (Array.getElem?_eq_some_iff.1 hk2).1 (fun e=>by rw [hcells k o e hk2] at ho; cases ho)).trans hk2⟩,h.bel.trans ⟨hk.os,hk.tape,hk.output,hk.size,fun k hk2=>hk.block k (by have:=h.bel.size; have:=h.le; omega) (fun e=>by have:=(q1.lt k e).1; omega)⟩,h.le⟩
end Go.Proofs.YthehbckogieimaaGreat

namespace Go.Proofs.YthehbckogieimaaGreat
open Go.RowKit
open Go.Proofs
open Go.Proofs.Ob
attribute [local irreducible] Go.Calls Go.wpList
theorem b_rem {w:World} {u v r:Int} (t:TypeId) (hv:v≠0) (h:u.tmod v=r) (_hb:-9223372036854775808≤r∧r≤9223372036854775807):(binOp .rem t (.int .i64 u) (.int .i64 v)).run Tryz.prog w=.ok (.int .i64 r) w:=by
 simp [binOp,Op.intDiv,hv,h]
end Go.Proofs.YthehbckogieimaaGreat

namespace Go.Proofs.YthehbckogieimaaGreat
open Go.Proofs
open Go.Proofs.Cm (Gr Gd IsChain IsG IsTr St Tr Sd Fx ap)
def sdB (n:Nat) (tr:Tr):Nat→List Nat→Bool
 | 0,x=>x == Ma.oneN n
 | d+1,x=>match tr (n - (d+1)) (ap x (n - (d+1))) with
  | none=>false
  | some u=>sdB n tr d (Ma.mulN x (Ma.invN u))
theorem sdB_sound {n:Nat} {tr:Tr}:∀ {d:Nat} {x:List Nat},sdB n tr d x=true→Sd n tr d x
 | 0,x,h=>by unfold sdB at h; exact eq_of_beq h
 | d+1,x,h=>by
  unfold sdB at h
  cases hu:tr (n - (d+1)) (ap x (n - (d+1))) with
  | none=>rw [hu] at h; cases h
  | some u=>rw [hu] at h; exact ⟨u,hu,sdB_sound h⟩
structure TE where
 i:Nat
 p:Nat
 u:List Nat
 w:List Nat
def trL (tab:List TE):Tr:=fun i p=>(tab.find? fun e=>e.i == i && e.p == p).map (·.u)
theorem trL_mem {tab:List TE} {i p:Nat} {u:List Nat} (h:trL tab i p=some u):∃ e∈tab,e.i=i∧e.p=p∧e.u=u:=by
 unfold trL at h
 cases hf:tab.find? fun e=>e.i == i && e.p == p with
 | none=>rw [hf] at h; cases h
 | some e =>
  rw [hf] at h;have h1:=List.find?_some hf;have h2:=List.mem_of_find?_eq_some hf;simp at h1 h;exact ⟨e,h2,h1.1,h1.2,h⟩
def gdB (n:Nat) (u:List Nat):Bool:=u.all (fun x=>decide (x<n)) && decide u.Nodup && u.length == n
theorem gdB_gd {n:Nat} {u:List Nat} (h:gdB n u=true):Gd n u:=by
 unfold gdB at h;simp only [Bool.and_eq_true,List.all_eq_true,decide_eq_true_eq,beq_iff_eq] at h;obtain ⟨⟨h1,h2⟩,h3⟩:=h;exact ⟨⟨fun x hx=>by rw [h3]; exact h1 x hx,h2⟩,h3⟩
def evalW (n:Nat) (gs:List (List Nat)) (w:List Nat):List Nat:=w.foldl (fun x k=>Ma.mulN x (gs.getD k (Ma.oneN n))) (Ma.oneN n)
theorem evalW_gr {n:Nat} {gs:List (List Nat)} (w:List Nat):Gr n (·∈gs) (evalW n gs w):=by
 unfold evalW
 have key:∀ (w:List Nat) (x:List Nat),Gr n (·∈gs) x→Gr n (·∈gs) (w.foldl (fun x k=>Ma.mulN x (gs.getD k (Ma.oneN n))) x):=by
  intro w
  induction w with
  | nil=>exact fun x h=>h
  | cons k w ih =>
   intro x h;rw [List.foldl_cons];refine ih _ (.mul _ _ h ?_)
   by_cases hk:k<gs.length
   ·rw [List.getD_eq_getElem?_getD,List.getElem?_eq_getElem hk]
    exact .gen _ (List.getElem_mem hk)
   ·rw [List.getD_eq_getElem?_getD,List.getElem?_eq_none (by omega)]
    exact .one
 exact key w _ .one
def entB (n:Nat) (gs:List (List Nat)) (e:TE):Bool:=gdB n e.u && (List.range e.i).all (fun j=>ap e.u j == j) && ap e.u e.i == e.p && evalW n gs e.w == e.u
def tabOK (n:Nat) (gs:List (List Nat)) (tab:List TE):Bool :=
 gs.all (gdB n) && gs.all (sdB n (trL tab) n) && tab.all (entB n gs) && (List.range n).all (fun i=>trL tab i i == some (Ma.oneN n)) && tab.all (fun e=>tab.all (fun e'=>sdB n (trL tab) n (Ma.mulN e.u e'.u)))
theorem tab_tr {n:Nat} {gs:List (List Nat)} {tab:List TE} (h:tabOK n gs tab=true):(∀ s∈gs,Gd n s)∧IsTr n (Gr n (·∈gs)) (trL tab):=by
 unfold tabOK at h;simp only [Bool.and_eq_true,List.all_eq_true,List.mem_range,beq_iff_eq] at h;obtain ⟨⟨⟨⟨h1,h2⟩,h3⟩,h4⟩,h5⟩:=h;have hg:∀ s∈gs,Gd n s:=fun s hs=>gdB_gd (h1 s hs)
 have he:∀ e∈tab,Gd n e.u∧Fx e.i e.u∧ap e.u e.i=e.p∧Gr n (·∈gs) e.u:=fun e hm=>by
  have h6:=h3 e hm;unfold entB at h6;simp only [Bool.and_eq_true,List.all_eq_true,List.mem_range,beq_iff_eq] at h6;obtain ⟨⟨⟨q1,q2⟩,q3⟩,q4⟩:=h6;exact ⟨gdB_gd q1,q2,q3,by rw [← q4]; exact evalW_gr _⟩
 refine ⟨hg,Cm.tab_isTr ⟨fun i p u _ _ hu=>?_,fun i p u _ _ hu=>?_,fun i p u _ _ hu=>?_,fun i _ hi=>h4 i hi⟩ hg (fun s hs=>sdB_sound (h2 s hs)) (fun i p u _ hu=>?_) (fun i p u j q v _ _ hu hv=>?_)⟩
 ·obtain ⟨e,hm,rfl,rfl,rfl⟩:=trL_mem hu; exact (he e hm).1
 ·obtain ⟨e,hm,rfl,rfl,rfl⟩:=trL_mem hu; exact (he e hm).2.1
 ·obtain ⟨e,hm,rfl,rfl,rfl⟩:=trL_mem hu; exact (he e hm).2.2.1
 ·obtain ⟨e,hm,rfl,rfl,rfl⟩:=trL_mem hu; exact (he e hm).2.2.2
 ·obtain ⟨e,hm,rfl,rfl,rfl⟩:=trL_mem hu
  obtain ⟨e',hm',rfl,rfl,rfl⟩:=trL_mem hv;exact sdB_sound (h5 e hm e' hm')
def orbOf (n:Nat) (tab:List TE) (i:Nat):List Nat:=(List.range n).filter fun p=>(trL tab i p).isSome
theorem chain_tab {n:Nat} {gs:List (List Nat)} {tab:List TE} (h:tabOK n gs tab=true) {O:List (List Nat)} {R:List (List (List Nat))} (hc:IsChain n (Gr n (·∈gs)) O R):O=(List.range n).map (orbOf n tab):=by
 obtain ⟨hg,ht⟩:=tab_tr h;have hH:=Gr.isG (n:=n) (gs:=(·∈gs)) hg
 apply List.ext_getElem (by rw [hc.lenO,List.length_map,List.length_range])
 intro i h1 h2
 have hi:i<n:=by rw [← hc.lenO]; exact h1
 rw [List.getElem_map,List.getElem_range,← getD_inf h1];refine Cm.asc_uniq (hc.asc i hi) (List.Pairwise.filter _ List.pairwise_lt_range) fun p=>?_;rw [hc.orb i p hi];unfold orbOf;rw [List.mem_filter,List.mem_range,Option.isSome_iff_exists]
 constructor
 ·rintro ⟨x,hx,rfl⟩
  exact ⟨Cm.ap_lt (hH.gd x hx.1) hi,ht.all i x hi hx⟩
 ·rintro ⟨_,u,hu⟩
  exact ⟨u,⟨ht.mem i p u hi hu,ht.rp.fx i p u (Nat.zero_le _) hi hu⟩,ht.rp.at_ i p u (Nat.zero_le _) hi hu⟩
end Go.Proofs.YthehbckogieimaaGreat

namespace Go.Proofs.YthehbckogieimaaGreat
open Go.RowKit
open Go.Proofs
open Go.Proofs.Ob
attribute [local irreducible] Go.Calls Go.wpList
theorem chOf_gs {N:Nat} {gs:List (List Nat)} (hg:Ma.gchk ((N:Nat):Int) (gs.map Ma.ofN)=0) {gv:Value} {w:World} (h:Rg.Rows w gv (gs.map Ma.ofN)) :
  Calls Tryz.prog 97 #[.agg #[.int .i64 ((N:Nat):Int),gv]] w fun e w'=>∃ ov rv O R,e=.returned (.tuple #[.agg #[.int .i64 ((N:Nat):Int),ov,rv],.int .i64 0])∧ChEqR w' ov rv (O.map Ma.ofN) (R.map (List.map Ma.ofN))∧Cm.IsChain N (Cm.Gr N (·∈gs)) O R∧Below w.heap.size w w':=by
 refine (chOf_any gv _ _ w h).mono ?_;rintro e w' ⟨cv,rfl,hc,hb⟩;rw [hg] at hc ⊢
 rcases hc with ⟨h0,_⟩ | ⟨_,n,gs',h1,h2,_,_,ov,rv,O,R,rfl,h3,h4,h5⟩
 ·exact absurd rfl h0
 ·obtain rfl:N=n:=by omega
  have:=map_ofN_inj h2;subst this;exact ⟨ov,rv,O,R,rfl,⟨h3,h4⟩,h5,hb⟩

theorem box2 (w:World) (x y:Value):CL (w.alloc (.cells #[x,y] 24)) w.heap.size 0 x∧CL (w.alloc (.cells #[x,y] 24)) w.heap.size 1 y :=
 ⟨⟨by rw [Rg.cellNew]; rfl,by simp⟩,⟨by rw [Rg.cellNew]; rfl,by simp⟩⟩
theorem RowsB.low {B:Nat} {w w':World} {v:Value} {ll:List (List Int)} (h:Rg.RowsB B w v ll) (hb:Below w.heap.size w w'):Rg.RowsB B w' v ll:=h.below hb
def bg (d:Int) (ll:List (List Int)):Bool:=lg ll || (decide (12<d) && decide (d≤64))
end Go.Proofs.YthehbckogieimaaGreat

namespace Go.Proofs.YthehbckogieimaaGreat
open Go.Proofs
open Go.Proofs.Cm (Tr Gr Gd Sd sfP)
def pickV (x n:Int):Int:=if x.tmod n<0 then x.tmod n+n else x.tmod n
theorem pickV_range {x n:Int} (h0:0<n):0≤pickV x n∧pickV x n<n:=by
 have h2:=Int.tmod_lt_of_pos x h0
 have h3:-n<x.tmod n:=by
  have:=Int.lt_tmod_of_pos x h0;omega
 unfold pickV
 split <;> omega
end Go.Proofs.YthehbckogieimaaGreat

namespace Go.Proofs.YthehbckogieimaaGreat
open Go.RowKit
open Go.Proofs
open Go.Proofs.Cm (Tr)
theorem RowG.push {F M:Nat→Prop} {W:World} {v:Value} {l:List (List Nat)} (h:RowG F M W v l) {u:Value} {x:List Nat} (hu:FP F W u x) (hs:∃ a m c,u=.slice a m c) (hF:∀ k,F k→k<W.heap.size) (hM:∀ k,M k→k<W.heap.size) (hn:l.length<1000000) (ty:TypeId) :
  ∃ a c X,(Builtin.append_ #[22,22] ty #[v,.slice (some ⟨W.heap.size,0,none⟩) 1 1]).run Tryz.prog (W.alloc (.cells #[u] 51))=.ok (.slice a (l.length+1) c) X∧RowG F M X (.slice a (l.length+1) c) (l++[x])∧Rg.Kp (fun k=>v.ownBlock=some k) W X:=by
 obtain ⟨B,us,h0,h1,h2⟩:=h.own;obtain ⟨a0,m0,c0,rfl⟩:=hs;have hb:Below W.heap.size W (W.alloc (.cells #[.slice a0 m0 c0] 51)):=(Below.refl _ _).alloc (Nat.le_refl _) _;obtain ⟨v',X,r1,r2,r3,r4,a,c,rfl⟩:=app_run (P:=Tryz.prog) slPerms ty (Rg.row_below h1 hb) (Nat.le_trans h0 hb.size) W.heap.size 1 (u:=.slice a0 m0 c0) (by rw [Rg.cellNew]; rfl) rfl hn;have hk:Rg.Kp (fun k=>v.ownBlock=some k) W X:=Rg.Kp.trans (M:=fun k=>v.ownBlock=some k) ((Rg.Kp.of_below hb).weak fun _=>False.elim) (Rg.Kp.of_grown r3 fun _ e=>e) (fun _ _ e=>e);have hg:∀ k,F k→¬ v.ownBlock=some k:=fun k g e=>(h.off k e).1 g;refine ⟨a,c,X,r1,⟨⟨B,us++[.slice a0 m0 c0],Nat.le_trans h0 hk.size,by rw [List.length_append]; exact r2,by rw [List.map_append]; exact FElts.snoc (h2.kp hk hg) (Rg.FI.kp hu hk hg)⟩,fun k e=>?_⟩,hk⟩
 rcases r4 with r4 | r4
 ·exact h.off k (by rw [← r4]; exact e)
 ·rw [r4] at e
  injection e with e
  have e2:(W.alloc (.cells #[.slice a0 m0 c0] 51)).heap.size=W.heap.size+1:=by simp
  exact ⟨fun g=>by have:=hF _ g; omega,fun g=>by have:=hM _ g; omega⟩
theorem RowG.set {F M:Nat→Prop} {W:World} {g c:Nat} {l:List (List Nat)} (h:RowG F M W (.slice (some ⟨g,0,none⟩) l.length c) l) (i:Nat) {u:Value} {x:List Nat} (hu:FP F W u x) :
  RowG F M (W.setCell ⟨g,i,none⟩ u) (.slice (some ⟨g,0,none⟩) l.length c) (l.set i x)∧Rg.Kp (fun k=>k=g) W (W.setCell ⟨g,i,none⟩ u):=by
 obtain ⟨B,us,h0,h1,h2⟩:=h.own;have hk:Rg.Kp (fun k=>k=g) W (W.setCell ⟨g,i,none⟩ u):=Rg.Kp.of_setCell rfl;have hg:∀ k,F k→¬ k=g:=fun k e e2=>(h.off g rfl).1 (e2▸e);have h2':=h2.kp hk hg;refine ⟨⟨⟨B,us.set i u,Nat.le_trans h0 hk.size,?_,?_,fun j hj hj2=>?_⟩,h.off⟩,hk⟩
 ·rw [List.length_set]; exact (h1.stored i u).1
 ·rw [List.length_set,List.length_map,List.length_set,← List.length_map (f:=Ma.ofN)]; exact h2.1
 ·have e1:j<us.length:=by rwa [List.length_set] at hj
  have e2:j<l.length:=by rwa [List.length_map,List.length_set] at hj2
  by_cases e:i=j
  ·subst e
   simp only [List.getElem_set_self,List.getElem_map];exact Rg.FI.kp hu hk hg
  ·simp only [List.getElem_set_ne e,List.getElem_map]
   have:=h2'.2 j e1 (by rw [List.length_map]; exact e2)
   simpa using this
theorem RowG.frozen {F M:Nat→Prop} {W:World} {g n c:Nat} {l:List (List Nat)} (h:RowG F M W (.slice (some ⟨g,0,none⟩) n c) l) (hn:n=l.length) (i:Nat):W.frozen? ⟨g,i,none⟩=false:=by
 subst hn;obtain ⟨B,us,h0,h1,h2⟩:=h.own;exact h1.frozenAt i
end Go.Proofs.YthehbckogieimaaGreat

namespace Go.Proofs.YthehbckogieimaaGreat
open Go.RowKit
open Go.Proofs
attribute [local irreducible] Go.Calls Go.wpList
theorem Pick_any (x n:Int) (w:World) (h0:0<n) (h1:n≤1000):Calls Tryz.prog 25 #[.int .i64 x,.int .i64 n] w fun e w'=>e=.returned (.int .i64 (pickV x n))∧Below w.heap.size w w':=by
 have hn0:¬ n=0:=by omega
 have h2:=Int.tmod_lt_of_pos x h0
 have h3:-n<x.tmod n:=by
  have:=Int.lt_tmod_of_pos x h0;omega
 by_cases hlt:x.tmod n<0
 ·rw [show pickV x n=x.tmod n+n from if_pos hlt]
  go_enter Tryz.func25,Tryz.ntmps25
  go_wp2;go_ret;exact ⟨rfl,Below.refl _ _⟩
 ·rw [show pickV x n=x.tmod n from if_neg hlt]
  go_enter Tryz.func25,Tryz.ntmps25
  go_wp2;go_ret;exact ⟨rfl,Below.refl _ _⟩
end Go.Proofs.YthehbckogieimaaGreat

namespace Go.Proofs.YthehbckogieimaaGreat
open Go.RowKit
open Go.Proofs
open Go.Proofs.Ob
open Go.Proofs.Cm (Tr)
attribute [local irreducible] Go.Calls Go.wpList
theorem RowG.nil (F M:Nat→Prop) (W:World):RowG F M W (.slice none 0 0) []:=⟨⟨W.heap.size,[],Nat.le_refl _,World.ownsRow_nil _ _ _ _,Rg.FElts.nil _ _⟩,fun k e=>by simp [Value.ownBlock] at e⟩
end Go.Proofs.YthehbckogieimaaGreat

namespace Go.Proofs.YthehbckogieimaaGreat
open Go.RowKit
open Go.Proofs
open Go.Proofs.Cm (Tr)
theorem RowG.below {F M:Nat→Prop} {W W':World} {v:Value} {l:List (List Nat)} (h:RowG F M W v l) (hb:Below W.heap.size W W'):RowG F M W' v l:=by
 obtain ⟨B,us,g0,g1,g2⟩:=h.own;exact ⟨⟨B,us,Nat.le_trans g0 hb.size,Rg.row_below g1 hb,g2.kp (M:=fun _=>False) (Rg.Kp.of_below hb) (fun _ _=>id)⟩,h.off⟩
theorem KG.bel {F0 F:Nat→Prop} {w0 w w':World} (h:KG F0 w0 F w) (hb:Below w.heap.size w w'):KG F0 w0 F w':=h.kf' (KF.of_below hb)
end Go.Proofs.YthehbckogieimaaGreat

namespace Go.Proofs.YthehbckogieimaaGreat
open Go.RowKit
open Go.Proofs
open Go.Proofs.Ob
open Go.Shelf
open Go.Proofs.Cm (Tr Gd ap sfP)
attribute [local go_sem] Oper.semAt_some
attribute [local irreducible] Go.Calls Go.wpList Go.wpListIn
theorem gd_mem {n:Nat} {y:List Nat} (h:Gd n y) {z:Nat} (hz:z∈y):z<n:=by
 obtain ⟨i,hi,rfl⟩:=List.getElem_of_mem hz;have:=Cm.ap_lt h (i:=i) (by rw [← h.2]; exact hi)
 rwa [Cm.ap_at hi] at this
end Go.Proofs.YthehbckogieimaaGreat

set_option linter.unusedVariables false
namespace Go.Proofs.YthehbckogieimaaGreat
open Go.RowKit
open Go.Proofs
open Go.Proofs.Ob
open Go.Shelf
attribute [local irreducible] Go.Calls Go.wpList
def MK (tc:Nat) (ov rv:Value) (z:Nat):Prop:=z=tc∨ov.ownBlock=some z∨rv.ownBlock=some z
theorem row_isCells {W:World} {B:Nat} {e:TypeId} {size:Nat} {v:Value} {n:Nat} {xs:List Value} (h:W.ownsRow B e size v n xs):∀ k,v.ownBlock=some k→∃ o:Obj,W.heap[k]?=some o∧o.isCells=true:=fun k e1=>by
 obtain ⟨_,h3⟩:=h
 rcases h3 with ⟨h4,_⟩ | ⟨g,cap,cur,h4,_,h5,_⟩
 ·rw [h4] at e1; simp [Value.ownBlock] at e1
 ·rw [h4] at e1
  simp [Value.ownBlock] at e1;subst e1;exact ⟨_,h5,rfl⟩
theorem cell_isCells {W:World} {a:Addr} {v:Value} (h:W.cell? a=some v):∃ o:Obj,W.heap[a.block]?=some o∧o.isCells=true:=by
 unfold World.cell? at h
 cases e:W.heap[a.block]? with
 | none=>rw [e] at h; cases h
 | some o =>
  rw [e] at h;refine ⟨o,rfl,?_⟩
  cases o <;> simp at h <;> rfl
theorem ChR.isCells {B:Nat} {W:World} {tc:Nat} {c0 c1 c2 ov rv:Value} {O:List (List Int)} {R:List (List (List Int))} (h:ChR B W tc c0 c1 c2 ov rv O R):∀ z,MK tc ov rv z→∃ o:Obj,W.heap[z]?=some o∧o.isCells=true:=by
 obtain ⟨us,vs,h1,h2,_⟩:=h.own
 rintro z (e | e | e)
 ·subst e; exact cell_isCells h.tri.c0
 ·exact row_isCells h1 z e
 ·exact row_isCells h2 z e
end Go.Proofs.YthehbckogieimaaGreat

namespace Go.Proofs.YthehbckogieimaaGreat
open Go.RowKit
open Go.Proofs
open Go.Proofs.Ob
attribute [local irreducible] Go.Calls Go.wpList
theorem infoIntsV:(Tryz.prog.info? 36).map (fun i=>(i.zero,i.size,i.bytes))=some (some (.slice none 0 0),1,24):=by kernel_rfl

theorem Zjcl0 (args:Array Value) (w:World):(callFunc 25 args).run Tryz.prog w=.ok (.enter 25 args) w:=by kernel_rfl
theorem tkF0 (b:Nat) (w:World):(Instr.fieldAt 44 (.pointer (some ⟨b,0,none⟩)) 0).run Tryz.prog w=.ok (.pointer (some ⟨b,0,none⟩)) w:=by kernel_rfl
theorem kpAcc {M:Nat→Prop} {w w' w'':World} (h:Rg.Kp M w w') (hb:Below w'.heap.size w' w''):Rg.Kp M w w'':=Rg.Kp.trans (M:=M) h (Rg.Kp.of_below (M:=M) hb) (fun _ _ e=>e)
theorem pick_n {x m:Int} {r:Nat} (h0:0<m) (h1:m≤1000) (hr:Hid (pickV x m=((r:Nat):Int))) (w:World):Calls Tryz.prog 25 #[.int .i64 x,.int .i64 m] w fun e w'=>e=.returned (.int .i64 ((r:Nat):Int))∧Below w.heap.size w w':=by
 rw [← hr.out];exact Pick_any x m w h0 h1
theorem tkF1 (b:Nat) (w:World):(Instr.fieldAt 44 (.pointer (some ⟨b,0,none⟩)) 1).run Tryz.prog w=.ok (.pointer (some ⟨b,1,none⟩)) w:=by kernel_rfl
structure Tk (w0 w:World) (tk k:Nat) (lv:Value) (l:List Int):Prop where
 c0:w.cell? ⟨tk,0,none⟩=some lv
 c1:w.cell? ⟨tk,1,none⟩=some (.int .i64 ((k:Nat):Int))
 f1:w.frozen? ⟨tk,1,none⟩=false
 lt:tk<w.heap.size
 lo:w0.heap.size≤tk
 bel:Below w0.heap.size w0 w
 ints:Rg.IntsB maxLen w0 lv l
theorem Tk.below {w0 w w':World} {tk k:Nat} {lv:Value} {l:List Int} (h:Tk w0 w tk k lv l) (hb:Below w.heap.size w w'):Tk w0 w' tk k lv l :=
 ⟨(hb.cell (p:=⟨tk,0,none⟩) h.lt).trans h.c0,(hb.cell (p:=⟨tk,1,none⟩) h.lt).trans h.c1,(hb.frozen (p:=⟨tk,1,none⟩) h.lt).trans h.f1,Nat.lt_of_lt_of_le h.lt hb.size,h.lo,h.bel.trans (hb.mono h.bel.size),h.ints⟩
theorem Tk.kp {M:Nat→Prop} {w0 w w':World} {tk k:Nat} {lv:Value} {l:List Int} (h:Tk w0 w tk k lv l) (hk:Rg.Kp M w w') (hM:¬ M tk) (hl:∀ z,M z→w0.heap.size≤z):Tk w0 w' tk k lv l :=
 ⟨(World.cell?_of_block (a:=⟨tk,0,none⟩) (hk.block tk h.lt hM)).trans h.c0,(World.cell?_of_block (a:=⟨tk,1,none⟩) (hk.block tk h.lt hM)).trans h.c1,(World.frozen?_of_block (a:=⟨tk,1,none⟩) (hk.block tk h.lt hM)).trans h.f1,Nat.lt_of_lt_of_le h.lt hk.size,h.lo,Rg.Kp.below h.bel hk hl,h.ints⟩
theorem Tk.next {w0 w:World} {tk k:Nat} {lv:Value} {l:List Int} (h:Tk w0 w tk k lv l) (v:Nat):Tk w0 (w.setCell ⟨tk,1,none⟩ (.int .i64 ((v:Nat):Int))) tk v lv l∧Rg.Kp (fun z=>z=tk) w (w.setCell ⟨tk,1,none⟩ (.int .i64 ((v:Nat):Int))):=by
 refine ⟨⟨?_,World.cell?_setCell_same (h:=h.c1) ..,by rw [World.frozen?_setCell]; exact h.f1,by simpa using h.lt,h.lo,h.bel.setCell (p:=⟨tk,1,none⟩) h.lo _,h.ints⟩,Rg.Kp.of_setCell rfl⟩
 rw [World.cell?_setCell_other (h:=by intro e; injection e with e1 e2; omega) ..]
 exact h.c0
def TkPost (w0 w:World) (tk:Nat) (lv:Value) (l:List Int) (m:Int) (e:Ending) (w':World):Prop:=∃ (r k':Nat),e=.returned (.int .i64 ((r:Nat):Int))∧(1≤m→(r:Int)<m)∧(¬ 1≤m→r=0)∧Tk w0 w' tk k' lv l∧Rg.Kp (fun z=>z=tk) w w'
theorem Take_any {w0 w:World} {tk k:Nat} {lv:Value} {l:List Int} (h:Tk w0 w tk k lv l) (m:Int) (hm:m≤1000) :
  Calls Tryz.prog 28 #[.pointer (some ⟨tk,0,none⟩),.int .i64 m] w (TkPost w0 w tk lv l m):=by
 obtain ⟨la,lc,rfl,-,hlm,-,hlc⟩:=h.ints.shape;have TK:=ι h;have HLM:=ι hlm;have HLC:=ι hlc;have K:=ι (Rg.Kp.refl (fun z=>z=tk) w);clear h hlm hlc
 go_enter Tryz.func28,Tryz.ntmps28
 by_cases hk:k<l.length
 case neg =>
  have hkN:¬ (k:Int)<(l.length:Int):=by omega
  go_upto_region 1 with (fail);have hV0:Below w.heap.size w w.drew:=(Below.refl _ _).drew;replace TK:=ι (TK.out.below hV0);replace K:=ι (kpAcc K.out hV0);clear hV0;refine Rg.Any.begin (S:=Rg.Both 13 (fun _=>True) (fun W=>Below w.drew.heap.size w.drew W)) mix ?_;generalize w.drew=w1 at *;have hS:∀ (l:Array Bool) W,Below w1.heap.size w1 W→Rg.Both 13 (fun _=>True) (fun W=>Below w1.heap.size w1 W) l W:=fun l W h=>⟨.inr trivial,h⟩;have hI:Below w1.heap.size w1 w1:=Below.refl _ _;refine Rg.tm 0 13 (.pointer (some ⟨tk,0,none⟩)) 5 (hS _ _ hI) ?_;go_frame;refine Rg.tg 1 13 (.pointer (some ⟨tk,0,none⟩)) 6 rfl rfl (.inl ⟨rfl,fun w _=>exec_nil _ rfl rfl⟩) (hS _ _ hI) ?_;go_frame;refine Rg.tg 2 13 (.pointer (some ⟨tk,1,none⟩)) 7 rfl rfl (.inl ⟨rfl,fun w _=>exec_field _ rfl rfl (tkF1 _ _)⟩) (hS _ _ hI) ?_;go_frame;refine Rg.tg 3 13 (.int .i64 ((k:Nat):Int)) 8 rfl rfl (Rg.yields_cell _ _ rfl rfl ⟨tk,1,none⟩ rfl (fun W hW=>run_loadInt ((Below.cell (p:=⟨tk,1,none⟩) hW TK.out.lt).trans TK.out.c1))) (hS _ _ hI) ?_;go_frame
  refine Rg.tm 4 13 (.pointer (some ⟨tk,0,none⟩)) 9 (hS _ _ hI) ?_;go_frame;refine Rg.tg 5 13 (.pointer (some ⟨tk,0,none⟩)) 10 rfl rfl (.inl ⟨rfl,fun w _=>exec_nil _ rfl rfl⟩) (hS _ _ hI) ?_;go_frame;refine Rg.tg 6 13 (.pointer (some ⟨tk,0,none⟩)) 11 rfl rfl (.inl ⟨rfl,fun w _=>exec_field _ rfl rfl (tkF0 _ _)⟩) (hS _ _ hI) ?_;go_frame;refine Rg.tg 7 13 (.slice la l.length lc) 12 rfl rfl (Rg.yields_cell _ _ rfl rfl ⟨tk,0,none⟩ rfl (fun W hW=>Rg.run_loadSl _ _ Tryz.underlying36 ((Below.cell (p:=⟨tk,0,none⟩) hW TK.out.lt).trans TK.out.c0))) (hS _ _ hI) ?_;go_frame;refine Rg.tg 8 13 (.int .i64 ((l.length:Nat):Int)) 13 rfl rfl (.inl ⟨rfl,fun w _=>exec_len _ _ _ rfl Tryz.underlying36 _ _ _ rfl⟩) (hS _ _ hI) ?_;go_frame;refine Rg.tg 9 13 (.bool true) 14 rfl rfl (.inl ⟨rfl,fun w _=>exec_bin (R:=.bool true) .geq _ _ _ rfl rfl rfl (b_geq _ (decide_eq_true (by omega)))⟩) (hS _ _ hI) ?_;go_frame
  refine Rg.tm 10 13 (.bool true) 15 (hS _ _ hI) ?_;go_frame;refine Rg.tg 11 13 (undef) 16 rfl rfl (.inr ⟨rfl,rfl⟩) (hS _ _ hI) ?_;go_frame;refine Rg.tg 12 13 (undef) 17 rfl rfl (.inr ⟨rfl,rfl⟩) (hS _ _ hI) ?_;go_frame;refine Rg.Any.one (i:=13) (by kernel_rfl) (Rg.Any.run (some 18) rfl rfl rfl (exec_pickT (v:=.bool true) _ _ _ rfl rfl rfl) (hS _ _ hI) ?_);go_frame;refine Rg.Any.done (by kernel_rfl) ?_ _;clear hS hI;go_upto_region 2 with (fail);refine wp_region_list ?_;refine Rg.la 4 (.int .i64 ((0:Nat):Int)) ?_;go_frame;go_wp2;go_ret;exact ⟨0,_,rfl,fun h=>by omega,fun _=>rfl,TK.out,K.out⟩
 case pos =>
  have hkN:(k:Int)<(l.length:Int):=by omega
  by_cases hm1:1≤m
  case neg =>
   skip
   go_upto_region 1 with (fail);have hV0:Below w.heap.size w w.drew:=(Below.refl _ _).drew;replace TK:=ι (TK.out.below hV0);replace K:=ι (kpAcc K.out hV0);clear hV0;refine Rg.Any.begin (S:=Rg.Both 13 (fun _=>True) (fun W=>Below w.drew.heap.size w.drew W)) mix ?_;generalize w.drew=w1 at *;have hS:∀ (l:Array Bool) W,Below w1.heap.size w1 W→Rg.Both 13 (fun _=>True) (fun W=>Below w1.heap.size w1 W) l W:=fun l W h=>⟨.inr trivial,h⟩;have hI:Below w1.heap.size w1 w1:=Below.refl _ _;refine Rg.tm 0 13 (.pointer (some ⟨tk,0,none⟩)) 5 (hS _ _ hI) ?_;go_frame;refine Rg.tg 1 13 (.pointer (some ⟨tk,0,none⟩)) 6 rfl rfl (.inl ⟨rfl,fun w _=>exec_nil _ rfl rfl⟩) (hS _ _ hI) ?_;go_frame;refine Rg.tg 2 13 (.pointer (some ⟨tk,1,none⟩)) 7 rfl rfl (.inl ⟨rfl,fun w _=>exec_field _ rfl rfl (tkF1 _ _)⟩) (hS _ _ hI) ?_;go_frame;refine Rg.tg 3 13 (.int .i64 ((k:Nat):Int)) 8 rfl rfl (Rg.yields_cell _ _ rfl rfl ⟨tk,1,none⟩ rfl (fun W hW=>run_loadInt ((Below.cell (p:=⟨tk,1,none⟩) hW TK.out.lt).trans TK.out.c1))) (hS _ _ hI) ?_;go_frame
   refine Rg.tm 4 13 (.pointer (some ⟨tk,0,none⟩)) 9 (hS _ _ hI) ?_;go_frame;refine Rg.tg 5 13 (.pointer (some ⟨tk,0,none⟩)) 10 rfl rfl (.inl ⟨rfl,fun w _=>exec_nil _ rfl rfl⟩) (hS _ _ hI) ?_;go_frame;refine Rg.tg 6 13 (.pointer (some ⟨tk,0,none⟩)) 11 rfl rfl (.inl ⟨rfl,fun w _=>exec_field _ rfl rfl (tkF0 _ _)⟩) (hS _ _ hI) ?_;go_frame;refine Rg.tg 7 13 (.slice la l.length lc) 12 rfl rfl (Rg.yields_cell _ _ rfl rfl ⟨tk,0,none⟩ rfl (fun W hW=>Rg.run_loadSl _ _ Tryz.underlying36 ((Below.cell (p:=⟨tk,0,none⟩) hW TK.out.lt).trans TK.out.c0))) (hS _ _ hI) ?_;go_frame;refine Rg.tg 8 13 (.int .i64 ((l.length:Nat):Int)) 13 rfl rfl (.inl ⟨rfl,fun w _=>exec_len _ _ _ rfl Tryz.underlying36 _ _ _ rfl⟩) (hS _ _ hI) ?_;go_frame;refine Rg.tg 9 13 (.bool false) 14 rfl rfl (.inl ⟨rfl,fun w _=>exec_bin (R:=.bool false) .geq _ _ _ rfl rfl rfl (b_geq _ (decide_eq_false (by omega)))⟩) (hS _ _ hI) ?_;go_frame
   refine Rg.tm 10 13 (.bool false) 15 (hS _ _ hI) ?_;go_frame;refine Rg.tm 11 13 (.int .i64 m) 16 (hS _ _ hI) ?_;go_frame;refine Rg.tg 12 13 (.bool true) 17 rfl rfl (.inl ⟨rfl,fun w _=>exec_bin (R:=.bool true) .lss _ _ _ rfl rfl rfl (b_lss _ (decide_eq_true (by omega)))⟩) (hS _ _ hI) ?_;go_frame;refine Rg.Any.one (i:=13) (by kernel_rfl) (Rg.Any.run (some 18) rfl rfl rfl (exec_pickF (v:=.bool true) _ _ _ rfl rfl rfl) (hS _ _ hI) ?_);go_frame;refine Rg.Any.done (by kernel_rfl) ?_ _;clear hS hI;go_upto_region 2 with (fail);refine wp_region_list ?_;refine Rg.la 4 (.int .i64 ((0:Nat):Int)) ?_;go_frame;go_wp2;go_ret;exact ⟨0,_,rfl,fun h=>by omega,fun _=>rfl,TK.out,K.out⟩
  case pos =>
   have hkb:k+1≤9223372036854775807:=by
    have:=HLM.out;unfold maxLen at this;omega
   obtain ⟨lb,lo,rfl,hlb,hcell⟩:=HLC.out (by omega);have hck:=hcell k hk;obtain ⟨x,hx⟩:∃ x:Int,l[k]=x:=⟨_,rfl⟩;rw [hx] at hck;have HKL:=ι hk;obtain ⟨r,hr⟩:∃ r:Nat,Hid (pickV x m=((r:Nat):Int)):=⟨_,ι (Int.toNat_of_nonneg (pickV_range (x:=x) (n:=m) (by omega)).1).symm⟩;have HRM:=ι (show ((r:Nat):Int)<m by rw [← hr.out]; exact (pickV_range (x:=x) (n:=m) (by omega)).2);have CX:=ι (CL.mk hck hlb);clear hck hlb hcell hx;go_upto_region 1 with (fail);have hV0:Below w.heap.size w w.drew:=(Below.refl _ _).drew;replace TK:=ι (TK.out.below hV0);replace K:=ι (kpAcc K.out hV0);clear hV0;refine Rg.Any.begin (S:=Rg.Both 13 (fun _=>True) (fun W=>Below w.drew.heap.size w.drew W)) mix ?_;generalize w.drew=w1 at *;have hS:∀ (l:Array Bool) W,Below w1.heap.size w1 W→Rg.Both 13 (fun _=>True) (fun W=>Below w1.heap.size w1 W) l W:=fun l W h=>⟨.inr trivial,h⟩
   have hI:Below w1.heap.size w1 w1:=Below.refl _ _;refine Rg.tm 0 13 (.pointer (some ⟨tk,0,none⟩)) 5 (hS _ _ hI) ?_;go_frame;refine Rg.tg 1 13 (.pointer (some ⟨tk,0,none⟩)) 6 rfl rfl (.inl ⟨rfl,fun w _=>exec_nil _ rfl rfl⟩) (hS _ _ hI) ?_;go_frame;refine Rg.tg 2 13 (.pointer (some ⟨tk,1,none⟩)) 7 rfl rfl (.inl ⟨rfl,fun w _=>exec_field _ rfl rfl (tkF1 _ _)⟩) (hS _ _ hI) ?_;go_frame;refine Rg.tg 3 13 (.int .i64 ((k:Nat):Int)) 8 rfl rfl (Rg.yields_cell _ _ rfl rfl ⟨tk,1,none⟩ rfl (fun W hW=>run_loadInt ((Below.cell (p:=⟨tk,1,none⟩) hW TK.out.lt).trans TK.out.c1))) (hS _ _ hI) ?_;go_frame;refine Rg.tm 4 13 (.pointer (some ⟨tk,0,none⟩)) 9 (hS _ _ hI) ?_;go_frame;refine Rg.tg 5 13 (.pointer (some ⟨tk,0,none⟩)) 10 rfl rfl (.inl ⟨rfl,fun w _=>exec_nil _ rfl rfl⟩) (hS _ _ hI) ?_;go_frame;refine Rg.tg 6 13 (.pointer (some ⟨tk,0,none⟩)) 11 rfl rfl (.inl ⟨rfl,fun w _=>exec_field _ rfl rfl (tkF0 _ _)⟩) (hS _ _ hI) ?_;go_frame
   refine Rg.tg 7 13 (.slice (some ⟨lb,lo,none⟩) l.length lc) 12 rfl rfl (Rg.yields_cell _ _ rfl rfl ⟨tk,0,none⟩ rfl (fun W hW=>Rg.run_loadSl _ _ Tryz.underlying36 ((Below.cell (p:=⟨tk,0,none⟩) hW TK.out.lt).trans TK.out.c0))) (hS _ _ hI) ?_;go_frame;refine Rg.tg 8 13 (.int .i64 ((l.length:Nat):Int)) 13 rfl rfl (.inl ⟨rfl,fun w _=>exec_len _ _ _ rfl Tryz.underlying36 _ _ _ rfl⟩) (hS _ _ hI) ?_;go_frame;refine Rg.tg 9 13 (.bool false) 14 rfl rfl (.inl ⟨rfl,fun w _=>exec_bin (R:=.bool false) .geq _ _ _ rfl rfl rfl (b_geq _ (decide_eq_false (by omega)))⟩) (hS _ _ hI) ?_;go_frame;refine Rg.tm 10 13 (.bool false) 15 (hS _ _ hI) ?_;go_frame;refine Rg.tm 11 13 (.int .i64 m) 16 (hS _ _ hI) ?_;go_frame;refine Rg.tg 12 13 (.bool false) 17 rfl rfl (.inl ⟨rfl,fun w _=>exec_bin (R:=.bool false) .lss _ _ _ rfl rfl rfl (b_lss _ (decide_eq_false (by omega)))⟩) (hS _ _ hI) ?_;go_frame
   refine Rg.Any.one (i:=13) (by kernel_rfl) (Rg.Any.run (some 18) rfl rfl rfl (exec_pickF (v:=.bool false) _ _ _ rfl rfl rfl) (hS _ _ hI) ?_);go_frame;refine Rg.Any.done (by kernel_rfl) ?_ _;clear hS hI;go_upto_region 3 with (fail);refine wp_region_list ?_;refine Rg.lm 19 (.pointer (some ⟨tk,0,none⟩)) ?_;go_frame;refine Rg.lr 20 (exec_nil _ rfl rfl) ?_;go_frame;refine Rg.lr 21 (exec_field _ rfl rfl (tkF1 _ _)) ?_;go_frame;refine Rg.lr 22 (Rg.exec_load (v:=.int .i64 ((k:Nat):Int)) _ _ rfl ⟨tk,1,none⟩ rfl (run_loadInt TK.out.c1)) ?_;go_frame;refine Rg.lr 23 (exec_bin (R:=.int .i64 (((k+1):Nat):Int)) .add _ _ _ rfl rfl rfl (b_add _ (by omega) (by omega))) ?_;go_frame;refine Rg.lr 24 (exec_nil _ rfl rfl) ?_;go_frame;refine Rg.lr 25 (exec_field _ rfl rfl (tkF1 _ _)) ?_;go_frame;refine Rg.list_skip none rfl rfl (Rg.exec_store _ _ _ rfl _ rfl _ rfl (run_storeInt _ TK.out.c1 TK.out.f1)) ?_;go_frame
   obtain ⟨ht2,hk2⟩:=TK.out.next (k+1);have K2:=ι (Rg.Kp.trans (M:=fun z=>z=tk) K.out hk2 (fun _ _ e=>e));have CX2:=ι (CX.out.upto ht2.bel CX.out.lt);generalize w1.setCell ⟨tk,1,none⟩ (.int .i64 (((k+1):Nat):Int))=w50 at *;have T2:=ι ht2;clear ht2 hk2 TK K CX;go_upto_region 4 with (fail);have hV0:Below w50.heap.size w50 w50.drew:=(Below.refl _ _).drew;replace T2:=ι (T2.out.below hV0);replace CX2:=ι (CX2.out.below hV0);replace K2:=ι (kpAcc K2.out hV0);clear hV0;refine Rg.Any.begin (S:=Rg.Both 13 (fun _=>True) (fun W=>Below w50.drew.heap.size w50.drew W)) mix ?_;generalize w50.drew=w51 at *;have hS:∀ (l:Array Bool) W,Below w51.heap.size w51 W→Rg.Both 13 (fun _=>True) (fun W=>Below w51.heap.size w51 W) l W:=fun l W h=>⟨.inr trivial,h⟩;have hI:Below w51.heap.size w51 w51:=Below.refl _ _;refine Rg.tm 0 13 (.pointer (some ⟨tk,0,none⟩)) 26 (hS _ _ hI) ?_;go_frame
   refine Rg.tg 1 13 (.pointer (some ⟨tk,0,none⟩)) 27 rfl rfl (.inl ⟨rfl,fun w _=>exec_nil _ rfl rfl⟩) (hS _ _ hI) ?_;go_frame;refine Rg.tg 2 13 (.pointer (some ⟨tk,0,none⟩)) 28 rfl rfl (.inl ⟨rfl,fun w _=>exec_field _ rfl rfl (tkF0 _ _)⟩) (hS _ _ hI) ?_;go_frame;refine Rg.tg 3 13 (.slice (some ⟨lb,lo,none⟩) l.length lc) 29 rfl rfl (Rg.yields_cell _ _ rfl rfl ⟨tk,0,none⟩ rfl (fun W hW=>Rg.run_loadSl _ _ Tryz.underlying36 ((Below.cell (p:=⟨tk,0,none⟩) hW T2.out.lt).trans T2.out.c0))) (hS _ _ hI) ?_;go_frame;refine Rg.tm 4 13 (.pointer (some ⟨tk,0,none⟩)) 30 (hS _ _ hI) ?_;go_frame;refine Rg.tg 5 13 (.pointer (some ⟨tk,0,none⟩)) 31 rfl rfl (.inl ⟨rfl,fun w _=>exec_nil _ rfl rfl⟩) (hS _ _ hI) ?_;go_frame;refine Rg.tg 6 13 (.pointer (some ⟨tk,1,none⟩)) 32 rfl rfl (.inl ⟨rfl,fun w _=>exec_field _ rfl rfl (tkF1 _ _)⟩) (hS _ _ hI) ?_;go_frame;refine Rg.tg 7 13 (.int .i64 (((k+1):Nat):Int)) 33 rfl rfl (Rg.yields_cell _ _ rfl rfl ⟨tk,1,none⟩ rfl (fun W hW=>run_loadInt ((Below.cell (p:=⟨tk,1,none⟩) hW T2.out.lt).trans T2.out.c1))) (hS _ _ hI) ?_;go_frame
   refine Rg.tg 8 13 (.int .i64 ((k:Nat):Int)) 34 rfl rfl (.inl ⟨rfl,fun w _=>exec_bin (R:=.int .i64 ((k:Nat):Int)) .sub _ _ _ rfl rfl rfl (b_sub _ (by omega) (by omega))⟩) (hS _ _ hI) ?_;go_frame;refine Rg.tg 9 13 (.pointer (some ⟨lb,lo+k,none⟩)) 35 rfl rfl (Rg.yields_index slInts _ _ rfl rfl lb (lo) (l.length) lc (k) rfl rfl HKL.out) (hS _ _ hI) ?_;go_frame;refine Rg.tg 10 13 (.int .i64 x) 36 rfl rfl (Rg.yields_cell _ _ rfl rfl ⟨lb,lo+k,none⟩ rfl (fun W hW=>run_loadInt ((Below.cell (p:=⟨lb,lo+k,none⟩) hW CX2.out.lt).trans CX2.out.cell))) (hS _ _ hI) ?_;go_frame;refine Rg.tm 11 13 (.int .i64 m) 37 (hS _ _ hI) ?_;go_frame;refine Rg.Any.one (i:=12) (by kernel_rfl) (Rg.Any.ask (some 38) rfl rfl rfl _ _ (exec_fn 25 _ _ _ rfl rfl rfl (Zjcl0 _ _)) ?_);refine (pick_n (by omega) hm hr w51).mono ?_;rintro e1 w52 ⟨rfl,hb⟩;have hI2_0:=Rg.acc hI hb;clear hb hI;refine ⟨_,rfl,(hS _ _ hI2_0),?_⟩
   go_frame;refine Rg.Any.one (i:=13) (by kernel_rfl) (Rg.Any.run (some 4) rfl rfl rfl (Rg.xa (.int .i64 ((r:Nat):Int)) _ rfl rfl) (hS _ _ hI2_0) ?_);go_frame;refine Rg.Any.done (by kernel_rfl) ?_ _;replace T2:=ι (T2.out.below hI2_0);replace CX2:=ι (CX2.out.below hI2_0);replace K2:=ι (kpAcc K2.out hI2_0);clear hS hI2_0;clear hkb;go_wp2;go_ret;exact ⟨r,_,rfl,fun _=>HRM.out,fun h=>by omega,T2.out,K2.out⟩
end Go.Proofs.YthehbckogieimaaGreat

namespace Go.Proofs.YthehbckogieimaaGreat
open Go.RowKit
open Go.Proofs
open Go.Proofs.Ob
open Go.Proofs.Cm (Gd)
attribute [local irreducible] Go.Calls Go.wpList
theorem Zkcl0 (args:Array Value) (w:World):(callFunc 101 args).run Tryz.prog w=.ok (.enter 101 args) w:=by kernel_rfl
theorem Zkcl1 (args:Array Value) (w:World):(callFunc 28 args).run Tryz.prog w=.ok (.enter 28 args) w:=by kernel_rfl
def RwAt (w:World) (g n:Nat) (f:Nat→Int):Prop:=g<w.heap.size∧(∀ i,i<n→w.cell? ⟨g,i,none⟩=some (.int .i64 (f i)))∧∀ i,w.frozen? ⟨g,i,none⟩=false
theorem RwAt.congr {w:World} {g n:Nat} {f f':Nat→Int} (h:RwAt w g n f) (e:∀ i,i<n→f i=f' i):RwAt w g n f' :=
 ⟨h.1,fun i hi=>by rw [← e i hi]; exact h.2.1 i hi,h.2.2⟩
theorem RwAt.set {w:World} {g n:Nat} {f:Nat→Int} (h:RwAt w g n f) (k:Nat) (v:Int) (hk:k<n):RwAt (w.setCell ⟨g,k,none⟩ (.int .i64 v)) g n (fun i=>if i=k then v else f i):=by
 refine ⟨by simpa using h.1,fun i hi=>?_,fun i=>by rw [World.frozen?_setCell]; exact h.2.2 i⟩;show _=some (Value.int .i64 (if i=k then v else f i))
 by_cases e:i=k
 ·subst e
  rw [if_pos rfl];exact World.cell?_setCell_same (h:=h.2.1 i hi) ..
 ·rw [if_neg e,World.cell?_setCell_other (h:=by intro h; injection h with h1 h2; omega) ..]
  exact h.2.1 i hi
theorem RwAt.kp {M:Nat→Prop} {w w':World} {g n:Nat} {f:Nat→Int} (h:RwAt w g n f) (hk:Rg.Kp M w w') (hM:¬ M g):RwAt w' g n f :=
 ⟨Nat.lt_of_lt_of_le h.1 hk.size,fun i hi=>(World.cell?_of_block (a:=⟨g,i,none⟩) (hk.block g h.1 hM)).trans (h.2.1 i hi),fun i=>(World.frozen?_of_block (a:=⟨g,i,none⟩) (hk.block g h.1 hM)).trans (h.2.2 i)⟩
theorem RwAt.below {w w':World} {g n:Nat} {f:Nat→Int} (h:RwAt w g n f) (hb:Below w.heap.size w w'):RwAt w' g n f:=h.kp (M:=fun _=>False) (Rg.Kp.of_below hb) id
theorem RwAt.np {w:World} {g n cap:Nat} {f:Nat→Int} (h:RwAt w g n f) (l:List Nat) (hl:l.length=n) (hc:n≤cap) (hm:cap≤maxLen) (hn:n≤1000) (e:∀ i (hi:i<l.length),f i=((l[i]:Nat):Int)):Rg.NP w (.slice (some ⟨g,0,none⟩) n cap) l:=by
 refine Rg.Ints.mk (by simp [Ma.ofN,hl]) h.1 (by simp [Ma.ofN]; omega) hm (by simp [Ma.ofN]; omega) fun i hi=>?_
 have hi':i<l.length:=by simpa [Ma.ofN] using hi
 rw [Nat.zero_add,h.2.1 i (by omega),e i hi'];simp [Ma.ofN]
def PRow (w:World) (g n:Nat) (y:List Nat):Prop:=RwAt w g n (fun i=>((y.getD i 0:Nat):Int))
theorem PRow.np {w:World} {g n cap:Nat} {y:List Nat} (h:PRow w g n y) (gy:Gd n y) (hc:n≤cap) (hm:cap≤maxLen) (hn:n≤1000):Rg.NP w (.slice (some ⟨g,0,none⟩) n cap) y :=
 RwAt.np h y gy.2 hc hm hn (fun i hi=>by show ((y.getD i 0:Nat):Int)=_; rw [List.getD_eq_getElem?_getD,List.getElem?_eq_getElem hi]; rfl)
theorem PRow.below {w w':World} {g n:Nat} {y:List Nat} (h:PRow w g n y) (hb:Below w.heap.size w w'):PRow w' g n y:=RwAt.below h hb
theorem kitOne_row (n:Nat) (w:World) (h1:1≤n) (hn:n≤1000) :
  Calls Tryz.prog 101 #[.int .i64 n] w fun e w'=>∃ g cap,e=.returned (.slice (some ⟨g,0,none⟩) n cap)∧w.heap.size≤g∧n≤cap∧cap≤maxLen∧RwAt w' g n (fun i=>(i:Int))∧Below w.heap.size w w':=by
 go_enter Tryz.func101,Tryz.ntmps101
 go_wp2
 go_loopw [3,4] (fun v i wr=>∃ k:Nat,k≤n∧i=.int .i64 k∧Hid (wr.ownsRow w.heap.size 3 1 v k (ivs (Ma.oneN k)))∧Hid (Below w.heap.size w wr)) (fun _ i _=>n - (intOf i).toNat)
 case atStart=>exact ⟨0,by omega,rfl,World.ownsRow_nil _ _ _ _,Below.refl _ _⟩
 case round =>
  obtain ⟨k,hk,rfl,hs,hbel⟩:=hrel
  by_cases hlt:k<n
  ·go_wp2_with (at_builtin; refine Rg.app1 rfl _ _ 51 rfl slPerm hs.out hbel.out _ (by simp [Value.oneCell']) rfl rfl (by omega) ?_; intro v' w1 hs1 hb1 _ _ _)
   go_roundw
   case rel=>exact ⟨k+1,by omega,by go_num,by rw [show Ma.oneN (k+1)=Ma.oneN k++[k] from List.range_succ,ivs_snoc]; exact hs1,hb1⟩
   case measure=>simp [intOf]; omega
  ·obtain rfl:k=n:=by omega
   go_wp2;go_ret;have ho:=hs.out
   obtain ⟨_,⟨_,h0⟩ | ⟨g,cap,cur,rfl,hg,hc,h3,h4,h5,h6⟩⟩:=hs.out
   ·omega
   ·refine ⟨g,cap,rfl,hg,h3,h4,⟨(ho.lt g rfl).2,fun i hi=>?_,fun i=>ho.frozenAt i⟩,hbel.out⟩
    have:=ho.cellAt i (by omega);rw [this];simp [ivs,Ma.oneN,hi]
def cyF (a b i:Nat):Nat:=if a≤i∧i+1<b then i+1 else if i+1=b then a else i
def cyN (n a b:Nat):List Nat:=(List.range n).map (cyF a b)
theorem nd_map {n:Nat} {f:Nat→Nat} (h:∀ a b,a<n→b<n→f a=f b→a=b):((List.range n).map f).Nodup:=by
 rw [List.Nodup,List.pairwise_map];exact List.Pairwise.imp_of_mem (fun {a b} ha hb hne e=>hne (h a b (List.mem_range.1 ha) (List.mem_range.1 hb) e)) List.nodup_range
theorem gd_map {n:Nat} {f:Nat→Nat} (h1:∀ a,a<n→f a<n) (h:∀ a b,a<n→b<n→f a=f b→a=b):Gd n ((List.range n).map f):=by
 refine ⟨⟨fun x hx=>?_,nd_map h⟩,by simp⟩;obtain ⟨a,ha,rfl⟩:=List.mem_map.1 hx
 simpa using h1 a (List.mem_range.1 ha)
theorem getD_map {n i:Nat} {f:Nat→Nat} (h:i<n):((List.range n).map f).getD i 0=f i:=by
 rw [List.getD_eq_getElem?_getD,List.getElem?_eq_getElem (by simpa using h)]; simp
theorem cyN_gd {n a b:Nat} (hab:a<b) (hb:b≤n):Gd n (cyN n a b):=by
 refine gd_map (fun i hi=>?_) (fun i j hi hj e=>?_)
 ·unfold cyF; split
  ·omega
  ·split <;> omega
 ·have key:∀ x,(a≤x∧x+1<b∧cyF a b x=x+1)∨(x+1=b∧cyF a b x=a)∨((x<a∨b≤x)∧cyF a b x=x):=fun x=>by
   unfold cyF
   by_cases h1:a≤x∧x+1<b
   ·exact .inl ⟨h1.1,h1.2,if_pos h1⟩
   ·by_cases h2:x+1=b
    ·exact .inr (.inl ⟨h2,by rw [if_neg h1,if_pos h2]⟩)
    ·exact .inr (.inr ⟨by omega,by rw [if_neg h1,if_neg h2]⟩)
  rcases key i with ⟨_,_,e1⟩ | ⟨_,e1⟩ | ⟨_,e1⟩ <;> rcases key j with ⟨_,_,e2⟩ | ⟨_,e2⟩ | ⟨_,e2⟩ <;> omega
theorem cycle_any {w:World} {g n cap a b:Nat} (h:RwAt w g n (fun i=>(i:Int))) (hab:a<b) (hb:b≤n) (hn:n≤1000) :
  Calls Tryz.prog 102 #[.slice (some ⟨g,0,none⟩) n cap,.int .i64 a,.int .i64 b] w fun e w'=>e=.returned (.slice (some ⟨g,0,none⟩) n cap)∧PRow w' g n (cyN n a b)∧Rg.Kp (fun z=>z=g) w w':=by
 have H:=ι (show RwAt w g n (fun j=>if a≤j∧j<a then ((j:Nat):Int)+1 else (j:Int)) from h.congr fun i _=>by rw [if_neg (by omega)]);have K:=ι (Rg.Kp.refl (fun z=>z=g) w);clear h
 go_enter Tryz.func102,Tryz.ntmps102
 go_wp2
 go_loopw [7] (fun iv wr=>∃ k:Nat,iv=.int .i64 k∧a≤k∧k≤b∧Hid (RwAt wr g n (fun j=>if a≤j∧j<k then ((j:Nat):Int)+1 else (j:Int)))∧Hid (Rg.Kp (fun z=>z=g) w wr)) (fun iv _=>b - (intOf iv).toNat)
 case atStart=>exact ⟨a,rfl,Nat.le_refl _,by omega,H,K⟩
 case round =>
  clear H K;obtain ⟨k,rfl,hak,hkb,H,K⟩:=hrel
  by_cases hlt:k<b
  ·have c1:=H.out.2.1 k (by omega)
   have f1:=H.out.2.2 k;have hs:=ι (H.out.set k ((k:Int)+1) (by omega));have hk2:=ι (Rg.Kp.trans (M:=fun z=>z=g) K.out (Rg.Kp.of_setCell (M:=fun z=>z=g) (a:=⟨g,k,none⟩) (v:=.int .i64 ((k:Int)+1)) rfl) (fun _ _ e=>e));go_wp2
   go_roundw
   case rel=>exact ⟨k+1,by go_num,by omega,hlt,ι (hs.out.congr fun i hi=>by
    by_cases e:i=k
    ·subst e; rw [if_pos rfl,if_pos (by omega)]
    ·rw [if_neg e]
     by_cases e2:a≤i∧i<k
     ·rw [if_pos e2,if_pos (by omega)]
     ·rw [if_neg e2,if_neg (by omega)]),hk2⟩
   case measure=>simp [intOf]; omega
  ·obtain rfl:k=b:=by omega
   obtain ⟨c,rfl⟩:∃ c,k=c+1:=⟨k - 1,by omega⟩;have c1:=H.out.2.1 c (by omega);have f1:=H.out.2.2 c;have hs:=ι (H.out.set c (a:Int) (by omega));have hk2:=ι (Rg.Kp.trans (M:=fun z=>z=g) K.out (Rg.Kp.of_setCell (M:=fun z=>z=g) (a:=⟨g,c,none⟩) (v:=.int .i64 (a:Int)) rfl) (fun _ _ e=>e));go_wp2;go_ret;refine ⟨rfl,RwAt.congr hs.out fun i hi=>?_,hk2.out⟩;show _=((((List.range n).map (cyF a (c+1))).getD i 0:Nat):Int);rw [getD_map hi];unfold cyF
   by_cases e:i=c
   ·subst e; rw [if_pos rfl,if_neg (by omega),if_pos rfl]
   ·rw [if_neg e]
    by_cases e2:a≤i∧i<c+1
    ·rw [if_pos e2,if_pos (by omega)]; rfl
    ·rw [if_neg e2,if_neg (by omega),if_neg (by omega)]
def swF (y:List Nat) (i k j:Nat):Nat:=if j=k then y.getD i 0 else if j=i then y.getD k 0 else y.getD j 0
def swN (n:Nat) (y:List Nat) (i k:Nat):List Nat:=(List.range n).map (swF y i k)
theorem swN_gd {n i k:Nat} {y:List Nat} (gy:Gd n y) (hi:i<n) (hk:k<n):Gd n (swN n y i k):=by
 have h1:∀ j,j<n→y.getD j 0<n:=fun j hj=>Cm.ap_lt gy hj;have h2:∀ a b,a<n→b<n→y.getD a 0=y.getD b 0→a=b:=fun a b ha hb e=>Cm.ap_inj gy ha hb e;refine gd_map (fun j hj=>?_) (fun a b ha hb e=>?_)
 ·unfold swF; split
  ·exact h1 _ hi
  ·split
   ·exact h1 _ hk
   ·exact h1 _ hj
 ·unfold swF at e
  by_cases a1:a=k
  ·rw [if_pos a1] at e
   by_cases b1:b=k
   ·omega
   ·rw [if_neg b1] at e
    by_cases b2:b=i
    ·rw [if_pos b2] at e; have:=h2 _ _ hi hk e; omega
    ·rw [if_neg b2] at e; have:=h2 _ _ hi hb e; omega
  ·rw [if_neg a1] at e
   by_cases a2:a=i
   ·rw [if_pos a2] at e
    by_cases b1:b=k
    ·rw [if_pos b1] at e; have:=h2 _ _ hk hi e; omega
    ·rw [if_neg b1] at e
     by_cases b2:b=i
     ·omega
     ·rw [if_neg b2] at e; have:=h2 _ _ hk hb e; omega
   ·rw [if_neg a2] at e
    by_cases b1:b=k
    ·rw [if_pos b1] at e; have:=h2 _ _ ha hi e; omega
    ·rw [if_neg b1] at e
     by_cases b2:b=i
     ·rw [if_pos b2] at e; have:=h2 _ _ ha hk e; omega
     ·rw [if_neg b2] at e; exact h2 _ _ ha hb e
theorem PRow.swap {w:World} {g n i k:Nat} {y:List Nat} (h:PRow w g n y) (hi:i<n) (hk:k<n):PRow ((w.setCell ⟨g,i,none⟩ (.int .i64 ((y.getD k 0:Nat):Int))).setCell ⟨g,k,none⟩ (.int .i64 ((y.getD i 0:Nat):Int))) g n (swN n y i k):=by
 refine RwAt.congr ((RwAt.set h i _ hi).set k _ hk) fun j hj=>?_;show _=((((List.range n).map (swF y i k)).getD j 0:Nat):Int);rw [getD_map hj];unfold swF
 by_cases e:j=k
 ·rw [if_pos e,if_pos e]
 ·rw [if_neg e,if_neg e]
  by_cases e2:j=i
  ·rw [if_pos e2,if_pos e2]
  ·rw [if_neg e2,if_neg e2]
theorem oneN_row {w:World} {g n:Nat} (h:RwAt w g n (fun i=>(i:Int))):PRow w g n (Ma.oneN n):=RwAt.congr h fun i hi=>by
 have:=Cm.ap_one hi;unfold Cm.ap at this;rw [this]
def PePost (w0 w:World) (tk:Nat) (lv:Value) (l:List Int) (n:Nat) (e:Ending) (w':World):Prop:=∃ g cap y k',e=.returned (.slice (some ⟨g,0,none⟩) n cap)∧w.heap.size≤g∧n≤cap∧cap≤maxLen∧Gd n y∧PRow w' g n y∧Tk w0 w' tk k' lv l∧Rg.Kp (fun z=>z=tk) w w'
theorem kitPerm_any {w0 w:World} {tk k:Nat} {lv:Value} {l:List Int} (h:Tk w0 w tk k lv l) {n:Nat} (hn1:1≤n) (hn2:n≤64) :
  Calls Tryz.prog 75 #[.pointer (some ⟨tk,0,none⟩),.int .i64 ((n:Nat):Int)] w (PePost w0 w tk lv l n):=by
 have TK:=ι h;have K:=ι (Rg.Kp.refl (fun z=>z=tk) w);have HLO:=ι h.lo;have HLT:=ι h.lt;have HWW:=ι h.bel.size;clear h
 go_enter Tryz.func75,Tryz.ntmps75
 go_upto_region 1 with (fail);refine wp_region_list ?_;refine Rg.lm 8 (.int .i64 ((n:Nat):Int)) ?_;go_frame;refine list_ask (some 9) rfl rfl _ _ (exec_fn1 101 _ _ rfl rfl (Zkcl0 _ _)) ?_;refine (kitOne_row n w hn1 (by omega)).mono ?_;rintro e1 w1 ⟨g,cap,rfl,hg,hc1,hc2,hro,hb⟩;have HG:=ι hg;have HCP:=ι (show n≤cap∧cap≤maxLen from ⟨hc1,hc2⟩);have hrp:=oneN_row hro;clear hg hc1 hc2 hro;refine ⟨_,rfl,?_⟩;go_frame;replace TK:=ι (TK.out.below hb);replace K:=ι (kpAcc K.out hb);clear hb;have PR:=ι hrp;refine Rg.la 5 (.slice (some ⟨g,0,none⟩) n cap) ?_;go_frame;go_upto_region 2 with (fail);refine wp_region_list ?_;refine Rg.la 6 (.int .i64 ((0:Nat):Int)) ?_;go_frame;clear hrp;have GY:=ι (Cm.gd_one n);go_wp2
 go_loopw [6] (fun iv wr=>∃ (i k':Nat) (y:List Nat),iv=.int .i64 i∧i≤n∧Hid (PRow wr g n y)∧Hid (Gd n y)∧Hid (Tk w0 wr tk k' lv l)∧Hid (Rg.Kp (fun z=>z=tk) w wr)) (fun iv _=>n - (intOf iv).toNat)
 case atStart=>exact ⟨0,k,_,rfl,Nat.zero_le _,PR,GY,TK,K⟩
 case round =>
  clear PR GY TK K;obtain ⟨i,k',y,rfl,hi,PR,GY,TK,K⟩:=hrel
  by_cases hin:i+1<n
  ·have hiN:(i:Int)+1<(n:Int):=by omega
   go_upto_region 3 with (fail);refine wp_region_list ?_;refine Rg.lm 10 (.int .i64 ((i:Nat):Int)) ?_;go_frame;refine Rg.lr 11 (exec_bin (R:=.int .i64 (((i+1):Nat):Int)) .add _ _ _ rfl rfl rfl (b_add _ (by omega) (by omega))) ?_;go_frame;refine Rg.lm 12 (.int .i64 ((n:Nat):Int)) ?_;go_frame;refine Rg.lr 13 (exec_bin (R:=.bool true) .lss _ _ _ rfl rfl rfl (b_lss _ (decide_eq_true (by omega)))) ?_;go_frame;go_upto_region 5 with (fail);refine wp_region_list ?_;refine Rg.lm 16 (.int .i64 ((i:Nat):Int)) ?_;go_frame;refine Rg.lm 17 (.pointer (some ⟨tk,0,none⟩)) ?_;go_frame;refine Rg.lm 18 (.int .i64 ((n:Nat):Int)) ?_;go_frame;refine Rg.lm 19 (.int .i64 ((i:Nat):Int)) ?_;go_frame;refine Rg.lr 20 (exec_bin (R:=.int .i64 (((n - i):Nat):Int)) .sub _ _ _ rfl rfl rfl (b_sub _ (by omega) (by omega))) ?_;go_frame;refine list_ask (some 21) rfl rfl _ _ (exec_fn 28 _ _ _ rfl rfl rfl (Zkcl1 _ _)) ?_
   refine (Take_any TK.out ((n - i:Nat):Int) (by omega)).mono ?_;rintro e1 w21 ⟨r,k2,rfl,hr1,hr2,htk,hkp⟩
   have hri:r<n - i:=by have:=hr1 (by omega); omega
   have hpr2:=RwAt.kp PR.out hkp (fun e=>by have:=HLT.out; have:=HG.out; omega);clear hr1 hr2;refine ⟨_,rfl,?_⟩;go_frame;clear TK;replace PR:=ι hpr2;replace K:=ι (Rg.Kp.trans (M:=fun z=>z=tk) K.out hkp (fun _ _ e=>e));have TK2:=ι htk;clear hkp hpr2;refine Rg.lr 22 (exec_bin (R:=.int .i64 (((i+r):Nat):Int)) .add _ _ _ rfl rfl rfl (b_add _ (by omega) (by omega))) ?_;go_frame;refine Rg.la 7 (.int .i64 (((i+r):Nat):Int)) ?_;go_frame;clear htk
   have hkn:i+r<n:=by omega
   have hin2:i<n:=by omega
   go_upto_region 6 with (fail);have hV1:Below w21.heap.size w21 w21.drew:=(Below.refl _ _).drew;replace PR:=ι (PRow.below PR.out hV1);replace TK2:=ι (TK2.out.below hV1);replace K:=ι (kpAcc K.out hV1);clear hV1;have hV0:Below w21.heap.size w21 w21.drew:=(Below.refl _ _).drew;generalize Fup (fun _:Nat=>True) w21 w21.drew=F1 at *;clear hV0;refine Rg.Any.begin (S:=Rg.Both 13 (fun W:World=>W.cell? ⟨g,i,none⟩=some (.int .i64 ((y.getD i 0:Nat):Int))∧W.cell? ⟨g,i+r,none⟩=some (.int .i64 ((y.getD (i+r) 0:Nat):Int))) (fun _=>True)) mix ?_;generalize w21.drew=w22 at *;have hS:∀ (l:Array Bool) W,(fun W:World=>W.cell? ⟨g,i,none⟩=some (.int .i64 ((y.getD i 0:Nat):Int))∧W.cell? ⟨g,i+r,none⟩=some (.int .i64 ((y.getD (i+r) 0:Nat):Int))) W→Rg.Both 13 (fun W:World=>W.cell? ⟨g,i,none⟩=some (.int .i64 ((y.getD i 0:Nat):Int))∧W.cell? ⟨g,i+r,none⟩=some (.int .i64 ((y.getD (i+r) 0:Nat):Int))) (fun _=>True) l W:=fun l W h=>⟨.inr h,trivial⟩
   have hS2:∀ (l:Array Bool) W,l.getD 13 false=true→Rg.Both 13 (fun W:World=>W.cell? ⟨g,i,none⟩=some (.int .i64 ((y.getD i 0:Nat):Int))∧W.cell? ⟨g,i+r,none⟩=some (.int .i64 ((y.getD (i+r) 0:Nat):Int))) (fun _=>True) l W:=fun l W h=>⟨.inl h,trivial⟩;have hI:(fun W:World=>W.cell? ⟨g,i,none⟩=some (.int .i64 ((y.getD i 0:Nat):Int))∧W.cell? ⟨g,i+r,none⟩=some (.int .i64 ((y.getD (i+r) 0:Nat):Int))) w22:=⟨PR.out.2.1 i hin2,PR.out.2.1 (i+r) hkn⟩;refine Rg.tm 0 13 (.slice (some ⟨g,0,none⟩) n cap) 23 (hS _ _ hI) ?_;go_frame;refine Rg.tm 1 13 (.int .i64 ((i:Nat):Int)) 24 (hS _ _ hI) ?_;go_frame;refine Rg.tm 2 13 (.slice (some ⟨g,0,none⟩) n cap) 25 (hS _ _ hI) ?_;go_frame;refine Rg.tm 3 13 (.int .i64 (((i+r):Nat):Int)) 26 (hS _ _ hI) ?_;go_frame;refine Rg.tm 4 13 (.slice (some ⟨g,0,none⟩) n cap) 27 (hS _ _ hI) ?_;go_frame
   refine Rg.tm 5 13 (.int .i64 (((i+r):Nat):Int)) 28 (hS _ _ hI) ?_;go_frame;refine Rg.tg 6 13 (.pointer (some ⟨g,0+(i+r),none⟩)) 29 rfl rfl (Rg.yields_index slPerm _ _ rfl rfl g (0) (n) cap ((i+r)) rfl rfl hkn) (hS _ _ hI) ?_;go_frame;refine Rg.Any.takeT (i:=7) (t:=13) (v:=.int .i64 (((y.getD (i+r) 0):Nat):Int)) (some 30) rfl rfl (by kernel_rfl) (by kernel_rfl) (by kernel_rfl) (fun _ _ _ h=>h) rfl (by kernel_rfl) rfl (Rg.yields_cell _ _ rfl rfl ⟨g,0+(i+r),none⟩ rfl (fun W hW=>run_loadInt (by rw [Nat.zero_add]; exact hW.2))) (hS _ _ hI) ?_;go_frame;refine Rg.tm 8 13 (.slice (some ⟨g,0,none⟩) n cap) 31 (hS _ _ hI) ?_;go_frame;refine Rg.tm 9 13 (.int .i64 ((i:Nat):Int)) 32 (hS _ _ hI) ?_;go_frame;refine Rg.tg 10 13 (.pointer (some ⟨g,0+i,none⟩)) 33 rfl rfl (Rg.yields_index slPerm _ _ rfl rfl g (0) (n) cap (i) rfl rfl hin2) (hS _ _ hI) ?_;go_frame
   refine Rg.Any.takeT (i:=11) (t:=13) (v:=.int .i64 (((y.getD i 0):Nat):Int)) (some 34) rfl rfl (by kernel_rfl) (by kernel_rfl) (by kernel_rfl) (fun _ _ _ h=>h) rfl (by kernel_rfl) rfl (Rg.yields_cell _ _ rfl rfl ⟨g,0+i,none⟩ rfl (fun W hW=>run_loadInt (by rw [Nat.zero_add]; exact hW.1))) (hS _ _ hI) ?_;go_frame;refine Rg.tg 12 13 (.pointer (some ⟨g,0+i,none⟩)) 35 rfl rfl (Rg.yields_index slPerm _ _ rfl rfl g (0) (n) cap (i) rfl rfl hin2) (hS _ _ hI) ?_;go_frame;refine Rg.Any.one (i:=13) (by kernel_rfl) (Rg.Any.runSkip none rfl rfl rfl (Rg.exec_store _ _ _ rfl _ rfl _ rfl (run_storeInt _ (by rw [Nat.zero_add]; exact PR.out.2.1 i hin2) (PR.out.2.2 _))) (hS2 _ _ rfl) ?_);go_frame;refine Rg.tg 14 13 (.pointer (some ⟨g,0+(i+r),none⟩)) 36 rfl rfl (Rg.yields_index slPerm _ _ rfl rfl g (0) (n) cap ((i+r)) rfl rfl hkn) (hS2 _ _ rfl) ?_;go_frame;obtain ⟨u2,hu2⟩:∃ u,(w22.setCell ⟨g,0+i,none⟩ (.int .i64 ((y.getD (i+r) 0:Nat):Int))).cell? ⟨g,0+(i+r),none⟩=some u:=⟨_,by rw [Nat.zero_add,Nat.zero_add]; exact (RwAt.set PR.out i _ hin2).2.1 (i+r) hkn⟩
   refine Rg.Any.one (i:=15) (by kernel_rfl) (Rg.Any.runSkip none rfl rfl rfl (Rg.exec_store _ _ _ rfl _ rfl _ rfl (run_storeInt _ hu2 (by rw [World.frozen?_setCell]; exact PR.out.2.2 _))) (hS2 _ _ rfl) ?_);go_frame;refine Rg.Any.done (by kernel_rfl) ?_ _;clear hS2;clear hS hI;have hsw:=PR.out.swap hin2 hkn;have hkk:=Rg.Kp.trans (M:=fun z=>z=g) (Rg.Kp.of_setCell (M:=fun z=>z=g) (w:=w22) (a:=⟨g,i,none⟩) (v:=.int .i64 ((y.getD (i+r) 0:Nat):Int)) rfl) (Rg.Kp.of_setCell (M:=fun z=>z=g) (a:=⟨g,i+r,none⟩) (v:=.int .i64 ((y.getD i 0:Nat):Int)) rfl) (fun _ _ e=>e);have e0:0+i=i:=Nat.zero_add i;have e1:0+(i+r)=i+r:=Nat.zero_add _;rw [e0,e1];generalize (w22.setCell ⟨g,i,none⟩ (.int .i64 ((y.getD (i+r) 0:Nat):Int))).setCell ⟨g,i+r,none⟩ (.int .i64 ((y.getD i 0:Nat):Int))=w99 at *;have PR2:=ι hsw;have GY2:=ι (swN_gd GY.out hin2 hkn)
   have TK3:=ι (TK2.out.kp hkk (fun e=>by have:=HLT.out; have:=HG.out; omega) (fun z e=>by have:=HLT.out; have:=HG.out; have:=HLO.out; omega));have K3:=ι (Rg.Kp.trans (M:=fun z=>z=tk) K.out hkk (fun z hz e=>by have:=HG.out; omega));clear hsw hkk e0 e1;go_wp2
   go_roundw
   case rel=>exact ⟨i+1,_,_,by go_num,by omega,PR2,GY2,TK3,K3⟩
   case measure=>simp [intOf]; omega
  ·have hiN:¬ (i:Int)+1<(n:Int):=by omega
   go_upto_region 3 with (fail);refine wp_region_list ?_;refine Rg.lm 10 (.int .i64 ((i:Nat):Int)) ?_;go_frame;refine Rg.lr 11 (exec_bin (R:=.int .i64 (((i+1):Nat):Int)) .add _ _ _ rfl rfl rfl (b_add _ (by omega) (by omega))) ?_;go_frame;refine Rg.lm 12 (.int .i64 ((n:Nat):Int)) ?_;go_frame;refine Rg.lr 13 (exec_bin (R:=.bool false) .lss _ _ _ rfl rfl rfl (b_lss _ (decide_eq_false (by omega)))) ?_;go_frame;go_upto_region 7 with (fail);refine wp_region_list ?_;refine Rg.lm 37 (.slice (some ⟨g,0,none⟩) n cap) ?_;go_frame;refine Rg.la 4 (.slice (some ⟨g,0,none⟩) n cap) ?_;go_frame;go_wp2;go_ret;exact ⟨g,cap,y,_,rfl,HG.out,HCP.out.1,HCP.out.2,GY.out,PR.out,TK.out,K.out⟩

theorem Zlcl2 (args:Array Value) (w:World):(callFunc 75 args).run Tryz.prog w=.ok (.enter 75 args) w:=by kernel_rfl
theorem Zlcl3 (args:Array Value) (w:World):(callFunc 102 args).run Tryz.prog w=.ok (.enter 102 args) w:=by kernel_rfl
theorem Zlcl4 (args:Array Value) (w:World):(callFunc 72 args).run Tryz.prog w=.ok (.enter 72 args) w:=by kernel_rfl
theorem exec_buildTk {o:Oper} {a:Act} {w:World} {la:Option Addr} {n c:Nat} (x:Operand) (ho:o.op=.build 44 #[(0,x)]) (hx:a.eval x=.slice la n c) :
  (execOp a.eval o).run Tryz.prog w=.ok (.value (.agg #[.slice la n c,.int .i64 0])) w:=by
 unfold execOp;simp only [ho,Sem.run_bind,Sem.run_pure];simp only [List.map_toArray,List.map_cons,List.map_nil,hx]
 have h:(Instr.build 44 #[(0,.slice la n c)]).run Tryz.prog w=.ok (.agg #[.slice la n c,.int .i64 0]) w:=by kernel_rfl
 first | (rw [h]; rfl) | (erw [h]; rfl)
theorem Tk.new {w:World} {la:Option Addr} {n c:Nat} {l:List Int} {W:World} (hb:Below w.heap.size w W) (hl:Rg.IntsB maxLen w (.slice la n c) l) (t:TypeId):Tk w (W.alloc (.cells #[.slice la n c,.int .i64 0] t)) W.heap.size 0 (.slice la n c) l :=
 ⟨by rw [Rg.cellNew]; rfl,by rw [Rg.cellNew]; rfl,frozenNewN _ _ _ 0 _,by simp,hb.size,hb.alloc hb.size _,hl⟩
structure CW1 (w:World) (b:Nat) (v:Value):Prop where
 c:w.cell? ⟨b,1,none⟩=some v
 f:w.frozen? ⟨b,1,none⟩=false
 lt:b<w.heap.size
theorem Tk.up {w0 w w':World} {tk k:Nat} {lv:Value} {l:List Int} (h:Tk w0 w tk k lv l) (hb:Below w.heap.size w w'):Tk w0 w' tk k lv l:=h.below hb
theorem PRow.up {w w':World} {g n:Nat} {y:List Nat} (h:PRow w g n y) (hb:Below w.heap.size w w'):PRow w' g n y:=h.below hb
theorem RwAt.up {w w':World} {g n:Nat} {f:Nat→Int} (h:RwAt w g n f) (hb:Below w.heap.size w w'):RwAt w' g n f:=h.below hb
theorem _root_.Go.Proofs.Rg.Kp.up {M:Nat→Prop} {w w' w'':World} (h:Rg.Kp M w w') (hb:Below w'.heap.size w' w''):Rg.Kp M w w'':=kpAcc h hb
structure FZ (w:World) (b o:Nat):Prop where
 f:w.frozen? ⟨b,o,none⟩=false
 lt:b<w.heap.size
theorem FZ.below {w w':World} {b o:Nat} (h:FZ w b o) (hb:Below w.heap.size w w'):FZ w' b o:=⟨(hb.frozen (p:=⟨b,o,none⟩) h.lt).trans h.f,Nat.lt_of_lt_of_le h.lt hb.size⟩
theorem FZ.kp {M:Nat→Prop} {w w':World} {b o:Nat} (h:FZ w b o) (hk:Rg.Kp M w w') (hM:¬ M b):FZ w' b o:=⟨(World.frozen?_of_block (a:=⟨b,o,none⟩) (hk.block b h.lt hM)).trans h.f,Nat.lt_of_lt_of_le h.lt hk.size⟩
theorem gset (W:World) (x y:Value) (t:TypeId):CL (((W.alloc (.cells #[.int .i64 0,.slice none 0 0] t)).setCell ⟨W.heap.size,0,none⟩ x).setCell ⟨W.heap.size,1,none⟩ y) W.heap.size 0 x∧(CW1 (((W.alloc (.cells #[.int .i64 0,.slice none 0 0] t)).setCell ⟨W.heap.size,0,none⟩ x).setCell ⟨W.heap.size,1,none⟩ y) W.heap.size y)∧Below W.heap.size W (((W.alloc (.cells #[.int .i64 0,.slice none 0 0] t)).setCell ⟨W.heap.size,0,none⟩ x).setCell ⟨W.heap.size,1,none⟩ y):=by
 have c0:(W.alloc (.cells #[.int .i64 0,.slice none 0 0] t)).cell? ⟨W.heap.size,0,none⟩=some (.int .i64 0):=by rw [Rg.cellNew]; rfl
 have c1:(W.alloc (.cells #[.int .i64 0,.slice none 0 0] t)).cell? ⟨W.heap.size,1,none⟩=some (.slice none 0 0):=by rw [Rg.cellNew]; rfl
 have f1:(W.alloc (.cells #[.int .i64 0,.slice none 0 0] t)).frozen? ⟨W.heap.size,1,none⟩=false:=frozenNewN _ _ _ 0 _
 have c1':((W.alloc (.cells #[.int .i64 0,.slice none 0 0] t)).setCell ⟨W.heap.size,0,none⟩ x).cell? ⟨W.heap.size,1,none⟩=some (.slice none 0 0):=by
  rw [World.cell?_setCell_other (h:=by intro e; injection e with e1 e2; omega) ..]; exact c1
 refine ⟨⟨?_,by simp⟩,⟨World.cell?_setCell_same (h:=c1') ..,by rw [World.frozen?_setCell,World.frozen?_setCell]; exact f1,by simp⟩,(((Below.refl _ _).alloc (Nat.le_refl _) _).setCell (p:=⟨W.heap.size,0,none⟩) (Nat.le_refl _) x).setCell (p:=⟨W.heap.size,1,none⟩) (Nat.le_refl _) y⟩
 rw [World.cell?_setCell_other (h:=by intro e; injection e with e1 e2; omega) ..]
 exact World.cell?_setCell_same (h:=c0) ..
theorem gfin {w W:World} {rb:Nat} {u0 u1 x y:Value} (h0:W.cell? ⟨rb,0,none⟩=some u0) (h1:W.cell? ⟨rb,1,none⟩=some u1) (hlt:rb<W.heap.size) (hb:Below w.heap.size w W) (hlo:w.heap.size≤rb:=by omega) :
  ((W.setCell ⟨rb,0,none⟩ x).setCell ⟨rb,1,none⟩ y).cell? ⟨rb,0,none⟩=some x∧((W.setCell ⟨rb,0,none⟩ x).setCell ⟨rb,1,none⟩ y).cell? ⟨rb,1,none⟩=some y∧Below w.heap.size w ((W.setCell ⟨rb,0,none⟩ x).setCell ⟨rb,1,none⟩ y)∧Rg.Kp (fun z=>z=rb) W ((W.setCell ⟨rb,0,none⟩ x).setCell ⟨rb,1,none⟩ y):=by
 have c1:(W.setCell ⟨rb,0,none⟩ x).cell? ⟨rb,1,none⟩=some u1:=by
  rw [World.cell?_setCell_other (h:=by intro e; injection e with e1 e2; omega) ..]; exact h1
 refine ⟨?_,World.cell?_setCell_same (h:=c1) ..,(hb.setCell (p:=⟨rb,0,none⟩) hlo x).setCell (p:=⟨rb,1,none⟩) hlo y,Rg.Kp.trans (M:=fun z=>z=rb) (Rg.Kp.of_setCell rfl) (Rg.Kp.of_setCell (M:=fun z=>z=rb) rfl) (fun _ _ e=>e)⟩
 rw [World.cell?_setCell_other (h:=by intro e; injection e with e1 e2; omega) ..]
 exact World.cell?_setCell_same (h:=h0) ..
theorem PRow.fp {w:World} {g n cap:Nat} {y:List Nat} (h:PRow w g n y) (gy:Gd n y) (hc:n≤cap) (hm:cap≤maxLen) (h1:1≤n) (hn:n≤1000) {F:Nat→Prop} (hF:F g):FP F w (.slice (some ⟨g,0,none⟩) n cap) y :=
 Rg.FVals.of (h.np gy hc hm hn) (fun k e=>by simp [Value.ownBlock] at e; exact e▸hF)
def GM (tk gb rb z:Nat):Prop:=z=tk∨z=gb∨z=rb
structure RowH (B:Nat) (F M:Nat→Prop) (W:World) (v:Value) (l:List (List Nat)):Prop where
 size:B≤W.heap.size
 own:∃ us,W.ownsRow B 51 1 v l.length us∧Rg.FElts F W us (l.map Ma.ofN)
 off:∀ k,v.ownBlock=some k→¬ F k∧¬ M k
theorem RowH.lt {B:Nat} {F M:Nat→Prop} {W:World} {v:Value} {l:List (List Nat)} (h:RowH B F M W v l):∀ k,v.ownBlock=some k→B≤k∧k<W.heap.size:=fun k e=>by
 obtain ⟨us,h1,h2⟩:=h.own;exact h1.lt k e
theorem RowH.shape {B:Nat} {F M:Nat→Prop} {W:World} {v:Value} {l:List (List Nat)} (h:RowH B F M W v l):∃ a c,v=.slice a l.length c:=by
 obtain ⟨us,h1,h2⟩:=h.own;exact Rg.row_shape h1
theorem RowH.nil (B:Nat) (F M:Nat→Prop) (W:World) (hB:B≤W.heap.size):RowH B F M W (.slice none 0 0) [] :=
 ⟨hB,⟨[],World.ownsRow_nil _ _ _ _,Rg.FElts.nil _ _⟩,fun k e=>by simp [Value.ownBlock] at e⟩
theorem RowH.rows {B:Nat} {F M:Nat→Prop} {W:World} {v:Value} {l:List (List Nat)} (h:RowH B F M W v l) (hl:l.length≤1000000000):Rg.Rows W v (l.map Ma.ofN):=by
 obtain ⟨us,h1,h2⟩:=h.own;exact Rg.Rows.of_row h1 hl h2.1 (fun i a b=>(h2.2 i a b).ints)
theorem RowH.kp {B:Nat} {F M N:Nat→Prop} {W W':World} {v:Value} {l:List (List Nat)} (h:RowH B F M W v l) (hk:Rg.Kp N W W') (hF:∀ k,F k→¬ N k) (hN:∀ k,v.ownBlock=some k→¬ N k):RowH B F M W' v l:=by
 obtain ⟨us,h1,h2⟩:=h.own;exact ⟨Nat.le_trans h.size hk.size,⟨us,rowKp h1 hk (fun k hn e=>hN k e hn),h2.kp hk hF⟩,h.off⟩
theorem RowH.upk {B:Nat} {F M N:Nat→Prop} {W W':World} {v:Value} {l:List (List Nat)} (h:RowH B F M W v l) (hk:Rg.Kp N W W') (hF:∀ k,F k→¬ N k) (hN:∀ k,N k→M k):RowH B (Fup F W W') M W' v l:=by
 obtain ⟨us,h1,h2⟩:=h.own;refine ⟨Nat.le_trans h.size hk.size,⟨us,rowKp h1 hk (fun k hn e=>(h.off k e).2 (hN k hn)),(h2.kp hk hF).mono fun k=>.inl⟩,fun k e=>⟨fun g=>?_,(h.off k e).2⟩⟩;have:=(h.lt k e).2
 rcases g with g | g
 ·exact (h.off k e).1 g
 ·omega
theorem RowH.push {B:Nat} {F M:Nat→Prop} {W:World} {v:Value} {l:List (List Nat)} (h:RowH B F M W v l) {u:Value} {x:List Nat} (hu:FP F W u x) (hs:∃ a m c,u=.slice a m c) (hF:∀ k,F k→k<W.heap.size) (hM:∀ k,M k→k<W.heap.size) (hn:l.length<1000000) (ty:TypeId) :
  ∃ a c X,(Builtin.append_ #[22,22] ty #[v,.slice (some ⟨W.heap.size,0,none⟩) 1 1]).run Tryz.prog (W.alloc (.cells #[u] 51))=.ok (.slice a (l.length+1) c) X∧RowH B F M X (.slice a (l.length+1) c) (l++[x])∧Rg.Kp (fun k=>v.ownBlock=some k) W X:=by
 obtain ⟨us,h1,h2⟩:=h.own;obtain ⟨a0,m0,c0,rfl⟩:=hs;have hb:Below W.heap.size W (W.alloc (.cells #[.slice a0 m0 c0] 51)):=(Below.refl _ _).alloc (Nat.le_refl _) _;obtain ⟨v',X,r1,r2,r3,r4,a,c,rfl⟩:=app_run (P:=Tryz.prog) slPerms ty (Rg.row_below h1 hb) (Nat.le_trans h.size hb.size) W.heap.size 1 (u:=.slice a0 m0 c0) (by rw [Rg.cellNew]; rfl) rfl hn;have hk:Rg.Kp (fun k=>v.ownBlock=some k) W X:=Rg.Kp.trans (M:=fun k=>v.ownBlock=some k) ((Rg.Kp.of_below hb).weak fun _=>False.elim) (Rg.Kp.of_grown r3 fun _ e=>e) (fun _ _ e=>e);have hg:∀ k,F k→¬ v.ownBlock=some k:=fun k g e=>(h.off k e).1 g;refine ⟨a,c,X,r1,⟨Nat.le_trans h.size hk.size,⟨us++[.slice a0 m0 c0],by rw [List.length_append]; exact r2,by rw [List.map_append]; exact FElts.snoc (h2.kp hk hg) (Rg.FI.kp hu hk hg)⟩,fun k e=>?_⟩,hk⟩
 rcases r4 with r4 | r4
 ·exact h.off k (by rw [← r4]; exact e)
 ·rw [r4] at e
  injection e with e
  have e2:(W.alloc (.cells #[.slice a0 m0 c0] 51)).heap.size=W.heap.size+1:=by simp
  exact ⟨fun g=>by have:=hF _ g; omega,fun g=>by have:=hM _ g; omega⟩
structure GOf (w W:World) (tk gb rb k d:Nat) (lv:Value) (l:List Int) (F:Nat→Prop) (gv:Value) (gs:List (List Nat)):Prop where
 tkr:Tk w W tk k lv l
 g0:CL W gb 0 (.int .i64 ((d:Nat):Int))
 g1:W.cell? ⟨gb,1,none⟩=some gv
 gf:W.frozen? ⟨gb,1,none⟩=false
 r0:∃ u,W.cell? ⟨rb,0,none⟩=some u
 r1:∃ u,W.cell? ⟨rb,1,none⟩=some u
 rf0:W.frozen? ⟨rb,0,none⟩=false
 rf1:W.frozen? ⟨rb,1,none⟩=false
 rlt:rb<W.heap.size
 rw:RowH w.heap.size F (GM tk gb rb) W gv gs
 nF:∀ z,GM tk gb rb z→¬ F z
 Flt:∀ z,F z→z<W.heap.size
 n1:gb≠tk
 n2:rb≠tk
 n3:rb≠gb
 lo:∀ z,GM tk gb rb z→w.heap.size≤z
theorem GOf.kt {w W W':World} {tk gb rb k k' d:Nat} {lv:Value} {l:List Int} {F:Nat→Prop} {gv:Value} {gs:List (List Nat)} (h:GOf w W tk gb rb k d lv l F gv gs) (hk:Rg.Kp (fun z=>z=tk) W W') (ht:Tk w W' tk k' lv l):GOf w W' tk gb rb k' d lv l (Fup F W W') gv gs:=by
 have hg:=World.cell?_of_block (a:=⟨gb,1,none⟩) (hk.block gb h.g0.lt h.n1);have hgf:=World.frozen?_of_block (a:=⟨gb,1,none⟩) (hk.block gb h.g0.lt h.n1);have hb:=hk.block rb h.rlt h.n2;refine ⟨ht,h.g0.kp hk h.n1,hg.trans h.g1,hgf.trans h.gf,?_,?_,(World.frozen?_of_block (a:=⟨rb,0,none⟩) hb).trans h.rf0,(World.frozen?_of_block (a:=⟨rb,1,none⟩) hb).trans h.rf1,Nat.lt_of_lt_of_le h.rlt hk.size,h.rw.upk hk (fun z hz e=>h.nF z (.inl e) hz) (fun z e=>.inl e),fun z hz hf=>?_,fun z hf=>?_,h.n1,h.n2,h.n3,h.lo⟩
 ·obtain ⟨u,hu⟩:=h.r0; exact ⟨u,(World.cell?_of_block (a:=⟨rb,0,none⟩) hb).trans hu⟩
 ·obtain ⟨u,hu⟩:=h.r1; exact ⟨u,(World.cell?_of_block (a:=⟨rb,1,none⟩) hb).trans hu⟩
 ·rcases hf with hf | hf
  ·exact h.nF z hz hf
  ·rcases hz with e | e | e
   ·have:=h.tkr.lt; omega
   ·have:=h.g0.lt; omega
   ·have:=h.rlt; omega
 ·rcases hf with hf | hf
  ·exact Nat.lt_of_lt_of_le (h.Flt z hf) hk.size
  ·exact hf.2
theorem GOf.push {w W:World} {tk gb rb k d:Nat} {lv:Value} {l:List Int} {F:Nat→Prop} {gv:Value} {gs:List (List Nat)} (h:GOf w W tk gb rb k d lv l F gv gs) {u:Value} {y:List Nat} (hu:FP F W u y) (hs:∃ a m c,u=.slice a m c) (hn:gs.length<1000000) (ty:TypeId) :
  ∃ a c X,(Builtin.append_ #[22,22] ty #[gv,.slice (some ⟨W.heap.size,0,none⟩) 1 1]).run Tryz.prog (W.alloc (.cells #[u] 51))=.ok (.slice a (gs.length+1) c) X∧X.cell? ⟨gb,1,none⟩=some gv∧X.frozen? ⟨gb,1,none⟩=false ∧
   GOf w (X.setCell ⟨gb,1,none⟩ (.slice a (gs.length+1) c)) tk gb rb k d lv l F (.slice a (gs.length+1) c) (gs++[y]):=by
 have hM:∀ z,GM tk gb rb z→z<W.heap.size:=fun z e=>by
  rcases e with e | e | e
  ·have:=h.tkr.lt; omega
  ·have:=h.g0.lt; omega
  ·have:=h.rlt; omega
 obtain ⟨a,c,X,r1,r2,r3⟩:=h.rw.push hu hs h.Flt hM hn ty;have hO:∀ z,GM tk gb rb z→¬ gv.ownBlock=some z:=fun z hz e=>(h.rw.off z e).2 hz;have hFo:∀ z,F z→¬ gv.ownBlock=some z:=fun z hz e=>(h.rw.off z e).1 hz;have hkg:=r3.block gb h.g0.lt (hO gb (.inr (.inl rfl)));have hkr:=r3.block rb h.rlt (hO rb (.inr (.inr rfl)));have hc1:=(World.cell?_of_block (a:=⟨gb,1,none⟩) hkg).trans h.g1;have hf1:=(World.frozen?_of_block (a:=⟨gb,1,none⟩) hkg).trans h.gf;have hk2:Rg.Kp (fun z=>z=gb) X (X.setCell ⟨gb,1,none⟩ (.slice a (gs.length+1) c)):=Rg.Kp.of_setCell rfl;have hFg:∀ z,F z→¬ z=gb:=fun z hz e=>h.nF z (.inr (.inl e)) hz;have hkr2:=hk2.block rb (Nat.lt_of_lt_of_le h.rlt r3.size) h.n3;refine ⟨a,c,X,r1,hc1,hf1,⟨(h.tkr.kp r3 (hO tk (.inl rfl)) (fun z e=>(h.rw.lt z e).1)).kp hk2 (fun e=>h.n1 e.symm) (fun z e=>e▸h.lo gb (.inr (.inl rfl))),?_,World.cell?_setCell_same (h:=hc1) ..,by rw [World.frozen?_setCell]; exact hf1,?_,?_,?_,?_,Nat.lt_of_lt_of_le h.rlt (Nat.le_trans r3.size hk2.size),r2.kp hk2 hFg (fun k e e2=>?_),h.nF,fun z hz=>Nat.lt_of_lt_of_le (h.Flt z hz) (Nat.le_trans r3.size hk2.size),h.n1,h.n2,h.n3,h.lo⟩⟩
 ·refine ⟨?_,Nat.lt_of_lt_of_le h.g0.lt (Nat.le_trans r3.size hk2.size)⟩
  rw [World.cell?_setCell_other (h:=by intro e; injection e with e1 e2; omega) ..]
  exact (World.cell?_of_block (a:=⟨gb,0,none⟩) hkg).trans h.g0.cell
 ·obtain ⟨u',hu'⟩:=h.r0
  exact ⟨u',(World.cell?_of_block (a:=⟨rb,0,none⟩) hkr2).trans ((World.cell?_of_block (a:=⟨rb,0,none⟩) hkr).trans hu')⟩
 ·obtain ⟨u',hu'⟩:=h.r1
  exact ⟨u',(World.cell?_of_block (a:=⟨rb,1,none⟩) hkr2).trans ((World.cell?_of_block (a:=⟨rb,1,none⟩) hkr).trans hu')⟩
 ·exact (World.frozen?_of_block (a:=⟨rb,0,none⟩) hkr2).trans ((World.frozen?_of_block (a:=⟨rb,0,none⟩) hkr).trans h.rf0)
 ·exact (World.frozen?_of_block (a:=⟨rb,1,none⟩) hkr2).trans ((World.frozen?_of_block (a:=⟨rb,1,none⟩) hkr).trans h.rf1)
 ·subst e2
  exact (r2.off k e).2 (.inr (.inl rfl))
def GoPost (most:Nat) (w:World) (e:Ending) (w':World):Prop:=∃ (d:Nat) (gv:Value) (gs:List (List Nat)),e=.returned (.agg #[.int .i64 ((d:Nat):Int),gv])∧1≤d∧d≤most∧gs.length≤3∧(∀ s∈gs,Gd d s)∧Rg.Rows w' gv (gs.map Ma.ofN)∧Below w.heap.size w w'
theorem GOf.start {w W:World} {tk gb rb k d:Nat} {lv:Value} {l:List Int} (ht:Tk w W tk k lv l) (h0:CL W gb 0 (.int .i64 ((d:Nat):Int))) (h1:CL W gb 1 (.slice none 0 0)) (hf:W.frozen? ⟨gb,1,none⟩=false) (r0:∃ u,W.cell? ⟨rb,0,none⟩=some u) (r1:∃ u,W.cell? ⟨rb,1,none⟩=some u) (rf0:W.frozen? ⟨rb,0,none⟩=false) (rf1:W.frozen? ⟨rb,1,none⟩=false) (n1:gb≠tk) (n2:rb≠tk) (n3:rb≠gb) (rlt:rb<W.heap.size) (lo1:w.heap.size≤gb) (lo2:w.heap.size≤rb):GOf w W tk gb rb k d lv l (fun _=>False) (.slice none 0 0) [] :=
 ⟨ht,h0,h1.cell,hf,r0,r1,rf0,rf1,rlt,RowH.nil _ _ _ _ ht.bel.size,fun _ _=>id,fun _=>False.elim,n1,n2,n3,fun z e=>by rcases e with rfl | rfl | rfl; exact ht.lo; exact lo1; exact lo2⟩
theorem GroupOf_any (lv:Value) (l:List Int) (most:Nat) (w:World) (hl:Rg.IntsB maxLen w lv l) (hm1:1≤most) (hm2:most≤64) :
  Calls Tryz.prog 24 #[lv,.int .i64 ((most:Nat):Int)] w (GoPost most w):=by
 obtain ⟨la,lc,rfl,-⟩:=hl.shape;have HL:=ι hl;have K:=ι (Below.refl w.heap.size w);clear hl;have hs0:w.heap.size=w.heap.size+0:=rfl
 go_enter Tryz.func24,Tryz.ntmps24
 go_upto_region 0 with (fail);refine wp_region_list ?_;have hg0:=box2 w (.int .i64 0) (.slice none 0 0);have hgf0:=frozenNewN w #[.int .i64 0,.slice none 0 0] 24 0 0;have hgf1:=frozenNewN w #[.int .i64 0,.slice none 0 0] 24 0 1;refine Rg.lr 4 (exec_allocG rfl) ?_;go_frame;have hb:=(Below.refl w.heap.size w).alloc (Nat.le_refl _) (.cells #[.int .i64 0,.slice none 0 0] 24);generalize w.alloc (.cells #[.int .i64 0,.slice none 0 0] 24)=w1 at *;replace K:=ι (Rg.acc K.out hb);clear hb;have R0:=ι hg0.1;have R1:=ι hg0.2;have F0:=ι (show w1.frozen? ⟨w.heap.size,0,none⟩=false from hgf0);have F1:=ι (show w1.frozen? ⟨w.heap.size,1,none⟩=false from hgf1);clear hg0 hgf0 hgf1;have FR0:=ι (show FZ w1 w.heap.size 0 from ⟨F0.out,R0.out.lt⟩);have FR1:=ι (show FZ w1 w.heap.size 1 from ⟨F1.out,R1.out.lt⟩);clear F0 F1;go_upto_region 1 with (fail);refine wp_region_list ?_;refine Rg.lm 10 (.slice la l.length lc) ?_;go_frame
 refine Rg.lr 11 (exec_buildTk _ rfl rfl) ?_;go_frame;have htk:=Tk.new K.out HL.out 44;have HRT:=ι R0.out.lt;refine Rg.lr 12 (Rg.exec_box _ _ rfl rfl) ?_;go_frame;have hb:=(Below.refl w1.heap.size w1).alloc (Nat.le_refl _) (.cells #[.slice la l.length lc,.int .i64 0] 44);generalize w1.alloc (.cells #[.slice la l.length lc,.int .i64 0] 44)=w2 at *;replace R0:=ι (R0.out.below hb);replace R1:=ι (R1.out.below hb);replace FR0:=ι (FR0.out.below hb);replace FR1:=ι (FR1.out.below hb);replace K:=ι (Rg.acc K.out hb);clear hb;have TK:=ι htk;refine Rg.la 5 (.pointer (some ⟨w1.heap.size,0,none⟩)) ?_;go_frame;clear htk;have HLO:=ι R0.out.lt;have HT0:=ι TK.out.lt;have HTL:=ι TK.out.lo;have HTR:=ι (show w.heap.size<w1.heap.size from HRT.out);go_upto_region 2 with (fail);refine wp_region_list ?_;refine Rg.lm 13 (.pointer (some ⟨w1.heap.size,0,none⟩)) ?_;go_frame;refine Rg.lm 14 (.int .i64 ((most:Nat):Int)) ?_;go_frame
 refine list_ask (some 15) rfl rfl _ _ (exec_fn 28 _ _ _ rfl rfl rfl (Zkcl1 _ _)) ?_;refine (Take_any TK.out ((most:Nat):Int) (by omega)).mono ?_;rintro e1 w3 ⟨r0,k0,rfl,hra,hrb,htk,hkp⟩;have hr0:=R0.out.kp hkp (fun e=>by have:=HTR.out; omega);have hr1:=R1.out.kp hkp (fun e=>by have:=HTR.out; omega);have hf0:=FR0.out.kp hkp (fun e=>by have:=HTR.out; omega);have hf1:=FR1.out.kp hkp (fun e=>by have:=HTR.out; omega)
 have hr0m:r0<most:=by have:=hra (by omega); omega
 clear hra hrb;refine ⟨_,rfl,?_⟩;go_frame;clear TK;replace R0:=ι hr0;replace R1:=ι hr1;replace FR0:=ι hf0;replace FR1:=ι hf1;replace K:=ι (show Below w.heap.size w _ from Rg.Kp.below K.out hkp (fun z e=>by have:=HTL.out; omega));have TK:=ι htk;clear hkp hr0 hr1 hf0 hf1;refine Rg.lr 16 (exec_bin (R:=.int .i64 (((1+r0):Nat):Int)) .add _ _ _ rfl rfl rfl (b_add _ (by omega) (by omega))) ?_;go_frame;refine Rg.lr 17 (exec_buildG1 _ rfl rfl) ?_;go_frame;have hnb:=box2 w3 (.int .i64 0) (.slice none 0 0);have hnf0:=frozenNewN w3 #[.int .i64 0,.slice none 0 0] 24 0 0;have hnf1:=frozenNewN w3 #[.int .i64 0,.slice none 0 0] 24 0 1;refine Rg.lr 6 (exec_allocG rfl) ?_;go_frame;refine Rg.list_skip none rfl rfl (Rg.exec_store _ _ _ rfl _ rfl _ rfl (run_storeG _ _ _ _ hnb.1.cell hnb.2.cell hnf0 hnf1)) ?_;go_frame;clear htk;have HD:1≤1+r0∧1+r0≤most:=⟨by omega,by omega⟩
 obtain ⟨d,hd⟩:∃ d,1+r0=d:=⟨_,rfl⟩;rw [hd] at HD ⊢;obtain ⟨gq1,gq2,gq3⟩:=gset w3 (.int .i64 ((d:Nat):Int)) (.slice none 0 0) 24;have HG1:=ι (show w3.heap.size≠w1.heap.size∧w.heap.size≠w3.heap.size from ⟨fun e=>by have:=TK.out.lt; omega,fun e=>by have:=R0.out.lt; omega⟩);have HSW:=ι K.out.size;replace R0:=ι (R0.out.below gq3);replace R1:=ι (R1.out.below gq3);replace FR0:=ι (FR0.out.below gq3);replace FR1:=ι (FR1.out.below gq3);replace TK:=ι (TK.out.below gq3);generalize ((w3.alloc (.cells #[.int .i64 0,.slice none 0 0] 24)).setCell ⟨w3.heap.size,0,none⟩ (.int .i64 ((d:Nat):Int))).setCell ⟨w3.heap.size,1,none⟩ (.slice none 0 0)=w30 at *;have GO:=ι (show GOf w w30 w1.heap.size w3.heap.size w.heap.size k0 d (.slice la l.length lc) l (fun _=>False) (.slice none 0 0) [] from GOf.start TK.out gq1 ⟨gq2.c,gq2.lt⟩ gq2.f ⟨_,R0.out.cell⟩ ⟨_,R1.out.cell⟩ FR0.out.f FR1.out.f HG1.out.1 (fun e=>by have:=HTR.out; omega) HG1.out.2 R0.out.lt HSW.out (Nat.le_refl _))
 clear gq1 gq2 gq3 hnb hnf0 hnf1 R0 R1 FR0 FR1 TK K hd hr0m;go_upto_region 3 with (fail);refine wp_region_list ?_;refine Rg.lm 18 (.pointer (some ⟨w1.heap.size,0,none⟩)) ?_;go_frame;refine list_ask (some 19) rfl rfl _ _ (exec_fn 28 _ _ _ rfl rfl rfl (Zkcl1 _ _)) ?_;refine (Take_any GO.out.tkr 4 (by omega)).mono ?_;rintro e1 w31 ⟨r3,k3,rfl,hra,hrb,htk,hkp⟩;have hgo:=GO.out.kt hkp htk
 have hr4:r3≤3:=by have:=hra (by omega); omega
 clear hra hrb htk;refine ⟨_,rfl,?_⟩;go_frame;clear hkp;refine Rg.la 7 (.int .i64 ((r3:Nat):Int)) ?_;go_frame;replace GO:=ι hgo;have HR3:=ι hr4;have HDD:=ι HD;clear hgo hr4 HD;go_wp2
 go_loopw [7] (fun kv wr=>∃ (k k':Nat) (F:Nat→Prop) (gv:Value) (gs:List (List Nat)),kv=.int .i64 k∧k≤3∧Hid (gs.length+k≤3)∧Hid (∀ s∈gs,Gd d s)∧Hid (GOf w wr w1.heap.size w3.heap.size w.heap.size k' d (.slice la l.length lc) l F gv gs)) (fun kv _=>(intOf kv).toNat)
 case atStart=>exact ⟨r3,k3,_,_,[],rfl,HR3.out,by rw [List.length_nil,Nat.zero_add]; exact HR3,ι (fun s hs=>by simp at hs),GO⟩
 case round =>
  clear GO HR3;obtain ⟨k,k',F,gv,gs,rfl,hk3,HGL,HGS,GO⟩:=hrel;obtain ⟨gva,gvc,rfl⟩:=GO.out.rw.shape;have hd1:1≤d:=HDD.out.1
  have hd2:d≤64:=by have:=HDD.out.2; omega
  by_cases hk0:0<k
  case neg =>
   obtain rfl:k=0:=by omega
   go_upto_region 4 with (fail);refine wp_region_list ?_;refine Rg.lm 20 (.int .i64 ((0:Nat):Int)) ?_;go_frame;refine Rg.lr 21 (exec_bin (R:=.bool false) .gtr _ _ _ rfl rfl rfl (b_gtr _ (decide_eq_false (by omega)))) ?_;go_frame;obtain ⟨u0,hu0⟩:=GO.out.r0;obtain ⟨u1,hu1⟩:=GO.out.r1;go_upto_region 15 with (fail);refine wp_region_list ?_;refine Rg.lr 79 (Rg.exec_load (v:=.agg #[.int .i64 ((d:Nat):Int),.slice gva gs.length gvc]) _ _ rfl ⟨w3.heap.size,0,none⟩ rfl (run_loadG GO.out.g0.cell GO.out.g1)) ?_;go_frame;refine Rg.list_skip none rfl rfl (Rg.exec_store _ _ _ rfl _ rfl _ rfl (run_storeG _ _ _ _ hu0 hu1 GO.out.rf0 GO.out.rf1)) ?_;go_frame;have hfin:=gfin (x:=.int .i64 ((d:Nat):Int)) (y:=(.slice gva gs.length gvc)) hu0 hu1 GO.out.rlt GO.out.tkr.bel;have hrw:=(GO.out.rw.kp hfin.2.2.2 (fun z hz e=>GO.out.nF z (.inr (.inr e)) hz) (fun z e1 e2=>(GO.out.rw.off z e1).2 (.inr (.inr e2)))).rows (by have:=HGL.out; omega)
   generalize (wr.setCell ⟨w.heap.size,0,none⟩ (.int .i64 ((d:Nat):Int))).setCell ⟨w.heap.size,1,none⟩ (.slice gva gs.length gvc)=w199 at *;have HF1:=ι hfin;have HF2:=ι (show GoPost most w (.returned (.agg #[.int .i64 ((d:Nat):Int),(.slice gva gs.length gvc)])) w199 from ⟨d,_,gs,rfl,HDD.out.1,HDD.out.2,by have:=HGL.out; omega,HGS.out,hrw,hfin.2.2.1⟩);clear hfin hrw hu0 hu1;go_wp2;exact bodyPost_ret (results_cellG rfl _ rfl HF1.out.1 HF1.out.2.1) rfl HF2.out
  case pos =>
   have hkN:(0:Int)<(k:Int):=by omega
   obtain ⟨q,rfl⟩:∃ q,k=q+1:=⟨k - 1,by omega⟩;go_upto_region 4 with (fail);refine wp_region_list ?_;refine Rg.lm 20 (.int .i64 (((q+1):Nat):Int)) ?_;go_frame;refine Rg.lr 21 (exec_bin (R:=.bool true) .gtr _ _ _ rfl rfl rfl (b_gtr _ (decide_eq_true (by omega)))) ?_;go_frame;have GC:=ι GO.out.g0;have TK:=ι GO.out.tkr;have KT:=ι (Rg.Kp.refl (fun z=>z=w1.heap.size) wr);have HNE:=ι GO.out.n1;have HTW:=ι GO.out.tkr.lt;have HTL2:=ι GO.out.tkr.lo;go_upto_region 6 with (fail);refine wp_region_list ?_;refine Rg.lr 24 (exec_fieldG0 _ rfl rfl) ?_;go_frame;refine Rg.lr 25 (Rg.exec_load (v:=.int .i64 ((d:Nat):Int)) _ _ rfl ⟨w3.heap.size,0,none⟩ rfl (run_loadInt GC.out.cell)) ?_;go_frame;refine list_ask (some 26) rfl rfl _ _ (exec_fn1 101 _ _ rfl rfl (Zkcl0 _ _)) ?_;refine (kitOne_row d wr hd1 (by omega)).mono ?_;rintro e1 w201 ⟨g,cap,rfl,hg,hc1,hc2,hro,hb⟩
   have HG:=ι hg;have HCP:=ι (show d≤cap∧cap≤maxLen from ⟨hc1,hc2⟩);clear hg hc1 hc2;refine ⟨_,rfl,?_⟩;go_frame;replace GC:=ι (GC.out.below hb);replace TK:=ι (TK.out.below hb);replace KT:=ι (kpAcc KT.out hb);clear hb;have PR:=ι hro;refine Rg.la 8 (.slice (some ⟨g,0,none⟩) d cap) ?_;go_frame;clear hro;go_upto_region 7 with (fail);refine wp_region_list ?_;refine Rg.lm 27 (.pointer (some ⟨w1.heap.size,0,none⟩)) ?_;go_frame;refine list_ask (some 28) rfl rfl _ _ (exec_fn 28 _ _ _ rfl rfl rfl (Zkcl1 _ _)) ?_;refine (Take_any TK.out (3) (by omega)).mono ?_;rintro e1 w202 ⟨r5,k5,rfl,hra,hrb,htk,hkp⟩;have hgc2:=GC.out.kp hkp HNE.out;have hpr2:=RwAt.kp PR.out hkp (fun e=>by have:=HTW.out; have:=HG.out; omega);clear hra hrb;obtain ⟨b3,hb3⟩:∃ b,Hid (decide (((r5:Nat):Int)=0)=b):=⟨_,ι rfl⟩;refine ⟨_,rfl,?_⟩;go_frame;clear TK;replace GC:=ι hgc2
   replace PR:=ι hpr2;replace KT:=ι (Rg.Kp.trans (M:=fun z=>z=w1.heap.size) KT.out hkp (fun _ _ e=>e));have TK:=ι htk;clear hkp hgc2 hpr2;refine Rg.lr 29 (exec_bin (R:=.bool b3) .eql _ _ _ rfl rfl rfl (b_eql _ hb3.out)) ?_;go_frame;clear htk
   cases b3 with
   | true =>
    go_upto_region 8 with (fail);refine wp_region_list ?_;refine Rg.lm 30 (.pointer (some ⟨w1.heap.size,0,none⟩)) ?_;go_frame;refine Rg.lr 31 (exec_fieldG0 _ rfl rfl) ?_;go_frame;refine Rg.lr 32 (Rg.exec_load (v:=.int .i64 ((d:Nat):Int)) _ _ rfl ⟨w3.heap.size,0,none⟩ rfl (run_loadInt GC.out.cell)) ?_;go_frame;refine list_ask (some 33) rfl rfl _ _ (exec_fn 75 _ _ _ rfl rfl rfl (Zlcl2 _ _)) ?_;refine (kitPerm_any TK.out hd1 hd2).mono ?_;rintro e1 w203 ⟨g2,cap2,y,k6,rfl,hg,hc1,hc2,hgy,hpr,htk,hkp⟩;have hgc2:=GC.out.kp hkp HNE.out;have HPR2:=ι hpr;have HGY0:=ι hgy;have HG2:=ι (Nat.le_trans KT.out.size hg);have HC2:=ι (show d≤cap2∧cap2≤maxLen from ⟨hc1,hc2⟩);clear hg hc1 hc2 hgy hpr;refine ⟨_,rfl,?_⟩;go_frame;clear TK;clear PR;replace GC:=ι hgc2;replace KT:=ι (Rg.Kp.trans (M:=fun z=>z=w1.heap.size) KT.out hkp (fun _ _ e=>e));have TK:=ι htk
    clear hkp hgc2;refine Rg.la 8 (.slice (some ⟨g2,0,none⟩) d cap2) ?_;go_frame;clear htk;have GO2:=ι (GO.out.kt KT.out TK.out);have HFP:=ι (show FP (Fup F wr w203) w203 (.slice (some ⟨g2,0,none⟩) d cap2) y from HPR2.out.fp HGY0.out HC2.out.1 HC2.out.2 hd1 (by omega) (.inr ⟨HG2.out,HPR2.out.1⟩));obtain ⟨a9,c9,X9,r1,r2,r3,r4⟩:=GO2.out.push HFP.out ⟨_,_,_,rfl⟩ (by have:=HGL.out; omega) 22;have HGY:=ι HGY0.out;clear GO GC TK KT;go_upto_region 14 with (fail);refine wp_region_list ?_;refine Rg.lr 73 (exec_fieldG _ rfl rfl) ?_;go_frame;refine Rg.lr 74 (Rg.exec_load (v:=.slice gva gs.length gvc) _ _ rfl ⟨w3.heap.size,1,none⟩ rfl (Rg.run_loadSl _ _ Tryz.underlying22 GO2.out.g1)) ?_;go_frame;refine Rg.lm 75 (.slice (some ⟨g2,0,none⟩) d cap2) ?_;go_frame;refine Rg.lr 76 (Rg.exec_buildSlice _ _ _ rfl (.slice (some ⟨g2,0,none⟩) d cap2) rfl (run_build1P w203 _ ⟨_,_,_,rfl⟩)) ?_;go_frame
    refine Rg.lr 77 (Rg.exec_append _ _ _ rfl rfl rfl r1) ?_;go_frame;refine Rg.lr 78 (exec_fieldG _ rfl rfl) ?_;go_frame;refine Rg.list_skip none rfl rfl (Rg.exec_store _ _ _ rfl _ rfl _ rfl (Rg.run_storeSl _ infoPermsV r2 r3)) ?_;go_frame;generalize X9.setCell ⟨w3.heap.size,1,none⟩ (.slice a9 (gs.length+1) c9)=w399 at *;have GO3:=ι r4;have HGL2:=ι (show (gs++[y]).length+q≤3 by rw [List.length_append]; have:=HGL.out; simp; omega)
    have HGS2:=ι (show ∀ s∈gs++[y],Gd d s from fun s hs=>by
     rcases List.mem_append.1 hs with hs | hs
     ·exact HGS.out s hs
     ·rw [List.mem_singleton] at hs; rw [hs]; exact HGY.out)
    clear r1 r2 r3 r4;go_wp2
    go_roundw
    case rel=>exact ⟨q,_,_,_,_,by go_num,by omega,HGL2,HGS2,GO3⟩
    case measure=>simp [intOf]; try omega
   | false =>
    go_upto_region 9 with (fail);refine wp_region_list ?_;refine Rg.lm 34 (.pointer (some ⟨w1.heap.size,0,none⟩)) ?_;go_frame;refine Rg.lr 35 (exec_fieldG0 _ rfl rfl) ?_;go_frame;refine Rg.lr 36 (Rg.exec_load (v:=.int .i64 ((d:Nat):Int)) _ _ rfl ⟨w3.heap.size,0,none⟩ rfl (run_loadInt GC.out.cell)) ?_;go_frame;refine list_ask (some 37) rfl rfl _ _ (exec_fn 28 _ _ _ rfl rfl rfl (Zkcl1 _ _)) ?_;refine (Take_any TK.out (((d:Nat):Int)) (by omega)).mono ?_;rintro e1 w203 ⟨fr,k6,rfl,hra,hrb,htk,hkp⟩;have hgc2:=GC.out.kp hkp HNE.out;have hpr2:=RwAt.kp PR.out hkp (fun e=>by have:=HTW.out; have:=HG.out; omega)
    have hfr:fr<d:=by have:=hra (by omega); omega
    clear hra hrb;refine ⟨_,rfl,?_⟩;go_frame;clear TK;replace GC:=ι hgc2;replace PR:=ι hpr2;replace KT:=ι (Rg.Kp.trans (M:=fun z=>z=w1.heap.size) KT.out hkp (fun _ _ e=>e));have TK:=ι htk;clear hkp hgc2 hpr2;refine Rg.la 9 (.int .i64 ((fr:Nat):Int)) ?_;go_frame;clear htk;go_upto_region 10 with (fail);refine wp_region_list ?_;refine Rg.lm 38 (.slice (some ⟨g,0,none⟩) d cap) ?_;go_frame;refine Rg.lm 39 (.int .i64 ((fr:Nat):Int)) ?_;go_frame;refine Rg.lm 40 (.int .i64 ((fr:Nat):Int)) ?_;go_frame;refine Rg.lr 41 (exec_bin (R:=.int .i64 (((fr+1):Nat):Int)) .add _ _ _ rfl rfl rfl (b_add _ (by omega) (by omega))) ?_;go_frame;refine Rg.lm 42 (.pointer (some ⟨w1.heap.size,0,none⟩)) ?_;go_frame;refine Rg.lr 43 (exec_fieldG0 _ rfl rfl) ?_;go_frame;refine Rg.lr 44 (Rg.exec_load (v:=.int .i64 ((d:Nat):Int)) _ _ rfl ⟨w3.heap.size,0,none⟩ rfl (run_loadInt GC.out.cell)) ?_;go_frame
    refine Rg.lm 45 (.int .i64 ((fr:Nat):Int)) ?_;go_frame;refine Rg.lr 46 (exec_bin (R:=.int .i64 (((d - fr):Nat):Int)) .sub _ _ _ rfl rfl rfl (b_sub _ (by omega) (by omega))) ?_;go_frame;refine list_ask (some 47) rfl rfl _ _ (exec_fn 28 _ _ _ rfl rfl rfl (Zkcl1 _ _)) ?_;refine (Take_any TK.out (((d - fr:Nat):Int)) (by omega)).mono ?_;rintro e1 w204 ⟨r7,k7,rfl,hra,hrb,htk,hkp⟩;have hgc2:=GC.out.kp hkp HNE.out;have hpr2:=RwAt.kp PR.out hkp (fun e=>by have:=HTW.out; have:=HG.out; omega)
    have hr7:r7<d - fr:=by have:=hra (by omega); omega
    clear hra hrb;refine ⟨_,rfl,?_⟩;go_frame;clear TK;replace GC:=ι hgc2;replace PR:=ι hpr2;replace KT:=ι (Rg.Kp.trans (M:=fun z=>z=w1.heap.size) KT.out hkp (fun _ _ e=>e));have TK:=ι htk;clear hkp hgc2 hpr2;refine Rg.lr 48 (exec_bin (R:=.int .i64 (((fr+1+r7):Nat):Int)) .add _ _ _ rfl rfl rfl (b_add _ (by omega) (by omega))) ?_;go_frame;clear htk;refine list_ask (some 49) rfl rfl _ _ (exec_fn3 102 _ _ _ _ rfl rfl rfl rfl (Zlcl3 _ _)) ?_;refine (cycle_any (a:=fr) (b:=fr+1+r7) PR.out (by omega) (by omega) (by omega)).mono ?_;rintro e1 w205 ⟨rfl,hpr,hkp⟩;have hgc2:=GC.out.kp hkp (fun e=>by have:=GO.out.g0.lt; have:=HG.out; omega);have htk2:=TK.out.kp hkp (fun e=>by have:=HTW.out; have:=HG.out; omega) (fun z e=>by have:=HTL2.out; have:=HTW.out; have:=HG.out; omega);have HGY0:=ι (show Gd d (cyN d fr (fr+1+r7)) from cyN_gd (by omega) (by omega))
    refine ⟨_,rfl,?_⟩;go_frame;clear PR;replace GC:=ι hgc2;replace TK:=ι htk2;replace KT:=ι (Rg.Kp.trans (M:=fun z=>z=w1.heap.size) KT.out hkp (fun z hz e=>by have:=HG.out; omega));have PR:=ι hpr;clear hkp hgc2 htk2;refine Rg.la 8 (.slice (some ⟨g,0,none⟩) d cap) ?_;go_frame;clear hpr;go_upto_region 11 with (fail);refine wp_region_list ?_;refine Rg.lm 50 (.pointer (some ⟨w1.heap.size,0,none⟩)) ?_;go_frame;refine Rg.lr 51 (exec_fieldG0 _ rfl rfl) ?_;go_frame;refine Rg.lr 52 (Rg.exec_load (v:=.int .i64 ((d:Nat):Int)) _ _ rfl ⟨w3.heap.size,0,none⟩ rfl (run_loadInt GC.out.cell)) ?_;go_frame;refine list_ask (some 53) rfl rfl _ _ (exec_fn 28 _ _ _ rfl rfl rfl (Zkcl1 _ _)) ?_;refine (Take_any TK.out (((d:Nat):Int)) (by omega)).mono ?_;rintro e1 w206 ⟨f2,k8,rfl,hra,hrb,htk,hkp⟩;have hgc2:=GC.out.kp hkp HNE.out;have hpr2:=RwAt.kp PR.out hkp (fun e=>by have:=HTW.out; have:=HG.out; omega)
    have hf2:f2<d:=by have:=hra (by omega); omega
    clear hra hrb;refine ⟨_,rfl,?_⟩;go_frame;clear TK;replace GC:=ι hgc2;replace PR:=ι hpr2;replace KT:=ι (Rg.Kp.trans (M:=fun z=>z=w1.heap.size) KT.out hkp (fun _ _ e=>e));have TK:=ι htk;clear hkp hgc2 hpr2;refine Rg.la 9 (.int .i64 ((f2:Nat):Int)) ?_;go_frame;clear htk;go_upto_region 12 with (fail);refine wp_region_list ?_;refine Rg.lm 54 (.pointer (some ⟨w1.heap.size,0,none⟩)) ?_;go_frame;refine list_ask (some 55) rfl rfl _ _ (exec_fn 28 _ _ _ rfl rfl rfl (Zkcl1 _ _)) ?_;refine (Take_any TK.out (2) (by omega)).mono ?_;rintro e1 w207 ⟨r8,k9,rfl,hra,hrb,htk,hkp⟩;have hgc2:=GC.out.kp hkp HNE.out;have hpr2:=RwAt.kp PR.out hkp (fun e=>by have:=HTW.out; have:=HG.out; omega);clear hra hrb;obtain ⟨b4,hb4⟩:∃ b,Hid (decide (((r8:Nat):Int)=1)=b):=⟨_,ι rfl⟩;refine ⟨_,rfl,?_⟩;go_frame;clear TK;replace GC:=ι hgc2;replace PR:=ι hpr2;replace KT:=ι (Rg.Kp.trans (M:=fun z=>z=w1.heap.size) KT.out hkp (fun _ _ e=>e))
    have TK:=ι htk;clear hkp hgc2 hpr2;refine Rg.lr 56 (exec_bin (R:=.bool b4) .eql _ _ _ rfl rfl rfl (b_eql _ hb4.out)) ?_;go_frame;clear htk
    cases b4 with
    | false =>
     have GO2:=ι (GO.out.kt KT.out TK.out);have HFP:=ι (show FP (Fup F wr w207) w207 (.slice (some ⟨g,0,none⟩) d cap) (cyN d fr (fr+1+r7)) from PRow.fp PR.out HGY0.out HCP.out.1 HCP.out.2 hd1 (by omega) (.inr ⟨HG.out,PR.out.1⟩));obtain ⟨a9,c9,X9,r1,r2,r3,r4⟩:=GO2.out.push HFP.out ⟨_,_,_,rfl⟩ (by have:=HGL.out; omega) 22;have HGY:=ι HGY0.out;clear GO GC TK KT;go_upto_region 14 with (fail);refine wp_region_list ?_;refine Rg.lr 73 (exec_fieldG _ rfl rfl) ?_;go_frame;refine Rg.lr 74 (Rg.exec_load (v:=.slice gva gs.length gvc) _ _ rfl ⟨w3.heap.size,1,none⟩ rfl (Rg.run_loadSl _ _ Tryz.underlying22 GO2.out.g1)) ?_;go_frame;refine Rg.lm 75 (.slice (some ⟨g,0,none⟩) d cap) ?_;go_frame;refine Rg.lr 76 (Rg.exec_buildSlice _ _ _ rfl (.slice (some ⟨g,0,none⟩) d cap) rfl (run_build1P w207 _ ⟨_,_,_,rfl⟩)) ?_;go_frame;refine Rg.lr 77 (Rg.exec_append _ _ _ rfl rfl rfl r1) ?_;go_frame
     refine Rg.lr 78 (exec_fieldG _ rfl rfl) ?_;go_frame;refine Rg.list_skip none rfl rfl (Rg.exec_store _ _ _ rfl _ rfl _ rfl (Rg.run_storeSl _ infoPermsV r2 r3)) ?_;go_frame;generalize X9.setCell ⟨w3.heap.size,1,none⟩ (.slice a9 (gs.length+1) c9)=w399 at *;have GO3:=ι r4;have HGL2:=ι (show (gs++[(cyN d fr (fr+1+r7))]).length+q≤3 by rw [List.length_append]; have:=HGL.out; simp; omega)
     have HGS2:=ι (show ∀ s∈gs++[(cyN d fr (fr+1+r7))],Gd d s from fun s hs=>by
      rcases List.mem_append.1 hs with hs | hs
      ·exact HGS.out s hs
      ·rw [List.mem_singleton] at hs; rw [hs]; exact HGY.out)
     clear r1 r2 r3 r4;go_wp2
     go_roundw
     case rel=>exact ⟨q,_,_,_,_,by go_num,by omega,HGL2,HGS2,GO3⟩
     case measure=>simp [intOf]; try omega
    | true =>
     go_upto_region 13 with (fail);have hV0:Below w207.heap.size w207 w207.drew:=(Below.refl _ _).drew;replace GC:=ι (GC.out.up hV0);replace TK:=ι (TK.out.up hV0);replace PR:=ι (PR.out.up hV0);replace KT:=ι (KT.out.up hV0);generalize Fup (fun _:Nat=>True) w207 w207.drew=F1 at *;clear hV0;refine Rg.Any.begin (S:=Rg.Both 16 (fun W:World=>W.cell? ⟨w3.heap.size,0,none⟩=some (.int .i64 ((d:Nat):Int))) (fun _=>True)) mix ?_;generalize w207.drew=w208 at *;have hS:∀ (l:Array Bool) W,(fun W:World=>W.cell? ⟨w3.heap.size,0,none⟩=some (.int .i64 ((d:Nat):Int))) W→Rg.Both 16 (fun W:World=>W.cell? ⟨w3.heap.size,0,none⟩=some (.int .i64 ((d:Nat):Int))) (fun _=>True) l W:=fun l W h=>⟨.inr h,trivial⟩;have hS2:∀ (l:Array Bool) W,l.getD 16 false=true→Rg.Both 16 (fun W:World=>W.cell? ⟨w3.heap.size,0,none⟩=some (.int .i64 ((d:Nat):Int))) (fun _=>True) l W:=fun l W h=>⟨.inl h,trivial⟩
     have hI:(fun W:World=>W.cell? ⟨w3.heap.size,0,none⟩=some (.int .i64 ((d:Nat):Int))) w208:=GC.out.cell;refine Rg.tm 0 16 (.slice (some ⟨g,0,none⟩) d cap) 57 (hS _ _ hI) ?_;go_frame;refine Rg.tg 1 16 (.pointer (some ⟨w3.heap.size,0,none⟩)) 58 rfl rfl (.inl ⟨rfl,fun w _=>exec_fieldG0 _ rfl rfl⟩) (hS _ _ hI) ?_;go_frame;refine Rg.Any.takeT (i:=2) (t:=16) (v:=.int .i64 ((d:Nat):Int)) (some 59) rfl rfl (by kernel_rfl) (by kernel_rfl) (by kernel_rfl) (fun _ _ _ h=>h) rfl (by kernel_rfl) rfl (Rg.yields_cell _ _ rfl rfl ⟨w3.heap.size,0,none⟩ rfl (fun W hW=>run_loadInt hW)) (hS _ _ hI) ?_;go_frame;refine Rg.tm 4 16 (.int .i64 ((f2:Nat):Int)) 61 (hS _ _ hI) ?_;go_frame;refine Rg.tm 5 16 (.int .i64 ((f2:Nat):Int)) 62 (hS _ _ hI) ?_;go_frame;refine Rg.tg 6 16 (.int .i64 (((f2+1):Nat):Int)) 63 rfl rfl (.inl ⟨rfl,fun w _=>exec_bin (R:=.int .i64 (((f2+1):Nat):Int)) .add _ _ _ rfl rfl rfl (b_add _ (by omega) (by omega))⟩) (hS _ _ hI) ?_;go_frame
     refine Rg.tm 7 16 (.pointer (some ⟨w1.heap.size,0,none⟩)) 64 (hS _ _ hI) ?_;go_frame;refine Rg.tg 8 16 (.pointer (some ⟨w3.heap.size,0,none⟩)) 65 rfl rfl (.inl ⟨rfl,fun w _=>exec_fieldG0 _ rfl rfl⟩) (hS _ _ hI) ?_;go_frame;refine Rg.Any.takeT (i:=9) (t:=16) (v:=.int .i64 ((d:Nat):Int)) (some 66) rfl rfl (by kernel_rfl) (by kernel_rfl) (by kernel_rfl) (fun _ _ _ h=>h) rfl (by kernel_rfl) rfl (Rg.yields_cell _ _ rfl rfl ⟨w3.heap.size,0,none⟩ rfl (fun W hW=>run_loadInt hW)) (hS _ _ hI) ?_;go_frame;refine Rg.tm 10 16 (.int .i64 ((f2:Nat):Int)) 67 (hS _ _ hI) ?_;go_frame;refine Rg.tg 11 16 (.int .i64 (((d - f2):Nat):Int)) 68 rfl rfl (.inl ⟨rfl,fun w _=>exec_bin (R:=.int .i64 (((d - f2):Nat):Int)) .sub _ _ _ rfl rfl rfl (b_sub _ (by omega) (by omega))⟩) (hS _ _ hI) ?_;go_frame;refine Rg.Any.one (i:=3) (by kernel_rfl) (Rg.Any.ask (some 60) rfl rfl rfl _ _ (exec_fn1 101 _ _ rfl rfl (Zkcl0 _ _)) ?_)
     refine (kitOne_row d w208 hd1 (by omega)).mono ?_;rintro e1 w209 ⟨g2,cap2,rfl,hg,hc1,hc2,hro,hb⟩;have HG2:=ι (Nat.le_trans KT.out.size hg);have HC2:=ι (show d≤cap2∧cap2≤maxLen from ⟨hc1,hc2⟩);have HNG:=ι (show g≠g2 from fun e=>by have:=PR.out.1; omega);clear hg hc1 hc2;have hI2_u:=((Below.cell (p:=⟨w3.heap.size,0,none⟩) hb (lt_of_cell hI)).trans hI);clear hI;replace GC:=ι (GC.out.up hb);replace TK:=ι (TK.out.up hb);replace PR:=ι (PR.out.up hb);replace KT:=ι (KT.out.up hb);have P2:=ι hro;generalize Fup F1 w208 w209=F2 at *;clear hb;refine ⟨_,rfl,(hS _ _ hI2_u),?_⟩;go_frame;refine Rg.Any.one (i:=12) (by kernel_rfl) (Rg.Any.ask (some 69) rfl rfl rfl _ _ (exec_fn 28 _ _ _ rfl rfl rfl (Zkcl1 _ _)) ?_);refine (Take_any TK.out (((d - f2:Nat):Int)) (by omega)).mono ?_;rintro e1 w210 ⟨r9,k10,rfl,hra,hrb,htk,hkp⟩;have hgc2:=GC.out.kp hkp HNE.out
     have hpr2:=RwAt.kp PR.out hkp (fun e=>by have:=HTW.out; have:=HG.out; omega);have hp22:=RwAt.kp P2.out hkp (fun e=>by have:=HTW.out; have:=HG2.out; omega)
     have hr9:r9<d - f2:=by have:=hra (by omega); omega
     clear hra hrb;have hI3_k:=((World.cell?_of_block (a:=⟨w3.heap.size,0,none⟩) (hkp.block w3.heap.size (lt_of_cell hI2_u) HNE.out)).trans hI2_u);clear hI2_u;refine ⟨_,rfl,(hS _ _ hI3_k),?_⟩;go_frame;clear TK;replace GC:=ι hgc2;replace PR:=ι hpr2;replace P2:=ι hp22;replace KT:=ι (Rg.Kp.trans (M:=fun z=>z=w1.heap.size) KT.out hkp (fun _ _ e=>e));have TK:=ι htk;clear hkp hgc2 hpr2 hp22;refine Rg.tg 13 16 (.int .i64 (((f2+1+r9):Nat):Int)) 70 rfl rfl (.inl ⟨rfl,fun w _=>exec_bin (R:=.int .i64 (((f2+1+r9):Nat):Int)) .add _ _ _ rfl rfl rfl (b_add _ (by omega) (by omega))⟩) (hS _ _ hI3_k) ?_;go_frame;refine Rg.Any.one (i:=14) (by kernel_rfl) (Rg.Any.ask (some 71) rfl rfl rfl _ _ (exec_fn3 102 _ _ _ _ rfl rfl rfl rfl (Zlcl3 _ _)) ?_);refine (cycle_any (a:=f2) (b:=f2+1+r9) P2.out (by omega) (by omega) (by omega)).mono ?_;rintro e1 w211 ⟨rfl,hp2,hkp⟩
     have hgc2:=GC.out.kp hkp (fun e=>by have:=GO.out.g0.lt; have:=HG2.out; omega);have htk2:=TK.out.kp hkp (fun e=>by have:=HTW.out; have:=HG2.out; omega) (fun z e=>by have:=HTL2.out; have:=HTW.out; have:=HG2.out; omega);have hpr2:=RwAt.kp PR.out hkp HNG.out;have HGY1:=ι (show Gd d (cyN d f2 (f2+1+r9)) from cyN_gd (by omega) (by omega));have hI4_k:=((World.cell?_of_block (a:=⟨w3.heap.size,0,none⟩) (hkp.block w3.heap.size (lt_of_cell hI3_k) (fun e=>by have:=GO.out.g0.lt; have:=HG2.out; omega))).trans hI3_k);clear hI3_k;refine ⟨_,rfl,(hS _ _ hI4_k),?_⟩;go_frame;clear P2;replace GC:=ι hgc2;replace PR:=ι hpr2;replace TK:=ι htk2;replace KT:=ι (Rg.Kp.trans (M:=fun z=>z=w1.heap.size) KT.out hkp (fun z hz e=>by have:=HG2.out; omega));have P3:=ι hp2;clear hkp hgc2 htk2 hpr2;have HSZM:=ι (show wr.heap.size≤w211.heap.size from KT.out.size)
     refine Rg.Any.one (i:=15) (by kernel_rfl) (Rg.Any.ask (some 72) rfl rfl rfl _ _ (exec_fn 72 _ _ _ rfl rfl rfl (Zlcl4 _ _)) ?_);refine (kitMul_any _ _ (cyN d fr (fr+1+r7)) (cyN d f2 (f2+1+r9)) w211 (PRow.np PR.out HGY0.out HCP.out.1 HCP.out.2 (by omega)) (PRow.np P3.out HGY1.out HC2.out.1 HC2.out.2 (by omega)) (fun z hz=>by rw [HGY1.out.2]; exact gd_mem HGY0.out hz) (by rw [HGY0.out.2]; omega)).mono ?_;rintro e1 w212 ⟨mv,rfl,hmv,hb⟩;obtain ⟨mb,mo,mc,rfl⟩:=FP.shape' (FP.new (F:=fun _=>True) hmv) (Cm.gd_mul HGY0.out HGY1.out) hd1;have hmf:=FP.new (F:=F) hmv;clear hmv;have hI5_u:=((Below.cell (p:=⟨w3.heap.size,0,none⟩) hb (lt_of_cell hI4_k)).trans hI4_k);clear hI4_k;replace GC:=ι (GC.out.up hb);replace PR:=ι (PR.out.up hb);replace TK:=ι (TK.out.up hb);replace P3:=ι (P3.out.up hb);replace KT:=ι (KT.out.up hb);have MF:=ι hmf;generalize Fup (fun _:Nat=>True) w211 w212=F3 at *
     clear hb;refine ⟨_,rfl,(hS _ _ hI5_u),?_⟩;go_frame;refine Rg.Any.one (i:=16) (by kernel_rfl) (Rg.Any.run (some 8) rfl rfl rfl (Rg.xa (.slice (some ⟨mb,mo,none⟩) d mc) _ rfl rfl) (hS2 _ _ rfl) ?_);go_frame;refine Rg.Any.done (by kernel_rfl) ?_ _;clear hS2;clear hS hI5_u;have GO2:=ι (GO.out.kt KT.out TK.out)
     have HFP:=ι (show FP (Fup F wr w212) w212 (.slice (some ⟨mb,mo,none⟩) d mc) (Ma.mulN (cyN d fr (fr+1+r7)) (cyN d f2 (f2+1+r9))) from MF.out.mono (fun z hz=>by rcases hz with hz | hz; exact .inl hz; exact .inr ⟨Nat.le_trans HSZM.out hz.1,hz.2⟩))
     obtain ⟨a9,c9,X9,r1,r2,r3,r4⟩:=GO2.out.push HFP.out ⟨_,_,_,rfl⟩ (by have:=HGL.out; omega) 22;have HGY:=ι (Cm.gd_mul HGY0.out HGY1.out);clear GO GC TK KT;go_upto_region 14 with (fail);refine wp_region_list ?_;refine Rg.lr 73 (exec_fieldG _ rfl rfl) ?_;go_frame;refine Rg.lr 74 (Rg.exec_load (v:=.slice gva gs.length gvc) _ _ rfl ⟨w3.heap.size,1,none⟩ rfl (Rg.run_loadSl _ _ Tryz.underlying22 GO2.out.g1)) ?_;go_frame;refine Rg.lm 75 (.slice (some ⟨mb,mo,none⟩) d mc) ?_;go_frame;refine Rg.lr 76 (Rg.exec_buildSlice _ _ _ rfl (.slice (some ⟨mb,mo,none⟩) d mc) rfl (run_build1P w212 _ ⟨_,_,_,rfl⟩)) ?_;go_frame;refine Rg.lr 77 (Rg.exec_append _ _ _ rfl rfl rfl r1) ?_;go_frame;refine Rg.lr 78 (exec_fieldG _ rfl rfl) ?_;go_frame;refine Rg.list_skip none rfl rfl (Rg.exec_store _ _ _ rfl _ rfl _ rfl (Rg.run_storeSl _ infoPermsV r2 r3)) ?_;go_frame;generalize X9.setCell ⟨w3.heap.size,1,none⟩ (.slice a9 (gs.length+1) c9)=w399 at *
     have GO3:=ι r4;have HGL2:=ι (show (gs++[(Ma.mulN (cyN d fr (fr+1+r7)) (cyN d f2 (f2+1+r9)))]).length+q≤3 by rw [List.length_append]; have:=HGL.out; simp; omega)
     have HGS2:=ι (show ∀ s∈gs++[(Ma.mulN (cyN d fr (fr+1+r7)) (cyN d f2 (f2+1+r9)))],Gd d s from fun s hs=>by
      rcases List.mem_append.1 hs with hs | hs
      ·exact HGS.out s hs
      ·rw [List.mem_singleton] at hs; rw [hs]; exact HGY.out)
     clear r1 r2 r3 r4;go_wp2
     go_roundw
     case rel=>exact ⟨q,_,_,_,_,by go_num,by omega,HGL2,HGS2,GO3⟩
     case measure=>simp [intOf]; try omega
end Go.Proofs.YthehbckogieimaaGreat

namespace Go.Proofs.YthehbckogieimaaGreat
open Go.RowKit
open Go.Proofs
attribute [local irreducible] Go.Calls Go.wpStill
def lessL:List Int→List Int→Bool
 | [],[]=>false
 | [],_ :: _=>true
 | _ :: _,[]=>false
 | x :: a,y :: b=>if x=y then lessL a b else decide (x<y)
theorem lessL_irr:∀ a:List Int,lessL a a=false
 | []=>rfl
 | x :: a=>by rw [lessL,if_pos rfl]; exact lessL_irr a
theorem lessL_trans:∀ {a b c:List Int},lessL a b=true→lessL b c=true→lessL a c=true
 | [],[],_,h,_=>by simp [lessL] at h
 | [],_ :: _,[],_,h=>by simp [lessL] at h
 | [],_ :: _,_ :: _,_,_=>rfl
 | _ :: _,[],_,h,_=>by simp [lessL] at h
 | _ :: _,_ :: _,[],_,h=>by simp [lessL] at h
 | x :: a,y :: b,z :: c,h,h'=>by
  rw [lessL] at h h' ⊢
  by_cases e1:x=y
  ·rw [if_pos e1] at h
   by_cases e2:y=z
   ·rw [if_pos e2] at h'; rw [if_pos (e1.trans e2)]; exact lessL_trans h h'
   ·rw [if_neg e2] at h'; rw [if_neg (by omega)]; simp at h' ⊢; omega
  ·rw [if_neg e1] at h
   by_cases e2:y=z
   ·rw [if_neg (by omega)]; simp at h ⊢; omega
   ·rw [if_neg e2] at h'; simp at h h'; rw [if_neg (by omega)]; simp; omega
theorem lessL_total:∀ {a b:List Int},lessL a b=false→a≠b→lessL b a=true
 | [],[],_,h=>absurd rfl h
 | [],_ :: _,h,_=>by simp [lessL] at h
 | _ :: _,[],_,_=>rfl
 | x :: a,y :: b,h,hn=>by
  rw [lessL] at h ⊢
  by_cases e:x=y
  ·rw [if_pos e] at h; rw [if_pos e.symm]
   exact lessL_total h (fun e2=>hn (by rw [e,e2]))
  ·rw [if_neg e] at h; rw [if_neg (by omega)]; simp at h ⊢; omega
theorem lessL_drop {a b:List Int} {k:Nat} (ha:k<a.length) (hb:k<b.length):lessL (a.drop k) (b.drop k)=if a[k]=b[k] then lessL (a.drop (k+1)) (b.drop (k+1)) else decide (a[k]<b[k]):=by
 rw [List.drop_eq_getElem_cons ha,List.drop_eq_getElem_cons hb,lessL]
theorem lessL_end {a b:List Int} {k:Nat} (h:¬ (k<a.length∧k<b.length)) (hk:k≤a.length) (hk2:k≤b.length):lessL (a.drop k) (b.drop k)=decide (a.length<b.length):=by
 by_cases h1:k<a.length
 ·have h2:k=b.length:=by omega
  rw [List.drop_eq_getElem_cons h1,List.drop_of_length_le (l:=b) (by omega)];simp [lessL]; omega
 ·rw [List.drop_of_length_le (l:=a) (by omega)]
  by_cases h2:k<b.length
  ·rw [List.drop_eq_getElem_cons h2]; simp [lessL]; omega
  ·rw [List.drop_of_length_le (l:=b) (by omega)]; simp [lessL]; omega
end Go.Proofs.YthehbckogieimaaGreat

namespace Go.Proofs.YthehbckogieimaaGreat
open Go.RowKit
open Go.Proofs
attribute [local irreducible] Go.Calls Go.wpList
def cmpI (x y:Int):Int:=if x<y then -1 else if y<x then 1 else 0
def cmpL:List Int→List Int→Int
 | [],[]=>0
 | [],_ :: _=>-1
 | _ :: _,[]=>1
 | x :: a,y :: b=>if cmpI x y=0 then cmpL a b else cmpI x y
theorem cmpL_lt:∀ (a b:List Int),decide (cmpL a b<0)=lessL a b
 | [],[]=>rfl
 | [],_ :: _=>rfl
 | _ :: _,[]=>rfl
 | x :: a,y :: b=>by
  unfold cmpL lessL cmpI
  by_cases h1:x=y
  ·subst h1
   simp only [Int.lt_irrefl,if_false,if_true];exact cmpL_lt a b
  ·by_cases h2:x<y
   ·simp [h1,h2]
   ·have h3:y<x:=by omega
    simp [h1,h2,h3]
theorem cmpL_drop {a b:List Int} {k:Nat} (ha:k<a.length) (hb:k<b.length):cmpL (a.drop k) (b.drop k)=if cmpI a[k] b[k]=0 then cmpL (a.drop (k+1)) (b.drop (k+1)) else cmpI a[k] b[k]:=by
 rw [List.drop_eq_getElem_cons ha,List.drop_eq_getElem_cons hb,cmpL]
theorem cmpL_one {a b:List Int} {k:Nat} (ha:k<a.length) (hb:b.length≤k):cmpL (a.drop k) (b.drop k)=1:=by
 rw [List.drop_eq_getElem_cons ha,List.drop_of_length_le (l:=b) hb,cmpL]
theorem cmpL_end {a b:List Int} {k:Nat} (ha:a.length≤k) (hb:k≤b.length) (hk:k≤a.length):cmpL (a.drop k) (b.drop k)=if a.length<b.length then -1 else 0:=by
 have e:k=a.length:=by omega
 subst e;rw [List.drop_of_length_le (l:=a) (Nat.le_refl _)]
 by_cases h:a.length<b.length
 ·rw [List.drop_eq_getElem_cons h,if_pos h,cmpL]
 ·rw [List.drop_of_length_le (l:=b) (by omega),if_neg h,cmpL]
theorem cmpCmp_any (x y:Int) (w:World):Calls Tryz.prog 172 #[.int .i64 x,.int .i64 y] w fun e w'=>e=.returned (.int .i64 (cmpI x y))∧w'=w:=by
 by_cases h1:x<y
 ·go_enter Tryz.func172,Tryz.ntmps172
  go_wp2;go_ret;exact ⟨by rw [show cmpI x y = -1 by unfold cmpI; rw [if_pos (by omega)]]; rfl,rfl⟩
 ·by_cases h2:y<x
  ·go_enter Tryz.func172,Tryz.ntmps172
   go_wp2;go_ret;exact ⟨by rw [show cmpI x y=1 by unfold cmpI; rw [if_neg (by omega),if_pos (by omega)]]; rfl,rfl⟩
  ·go_enter Tryz.func172,Tryz.ntmps172
   go_wp2;go_ret;exact ⟨by rw [show cmpI x y=0 by unfold cmpI; rw [if_neg (by omega),if_neg (by omega)]]; rfl,rfl⟩
theorem Compare_any (v1 v2:Value) (l1 l2:List Int) (w:World) (h1:Rg.Ints w v1 l1) (h2:Rg.Ints w v2 l2) :
  Calls Tryz.prog 90 #[v1,v2] w fun e w'=>e=.returned (.int .i64 (cmpL l1 l2))∧w'=w:=by
 obtain ⟨a1,c1,rfl,n1,m1,_,k1⟩:=h1.shape;obtain ⟨a2,c2,rfl,n2,m2,_,k2⟩:=h2.shape;clear h1 h2;have K1:=ι k1;have K2:=ι k2;clear k1 k2
 go_enter Tryz.func90,Tryz.ntmps90
 go_wp2
 go_loopw [11] (fun v wr=>∃ i:Nat,v=.int .i64 i∧i≤l1.length∧i≤l2.length∧Hid (w=wr)∧Hid (cmpL (l1.drop i) (l2.drop i)=cmpL l1 l2)) (fun v _=>l1.length - (intOf v).toNat)
 case atStart=>exact ⟨0,rfl,by omega,by omega,rfl,rfl⟩
 case round =>
  obtain ⟨i,rfl,hi,hi2,hw,hs⟩:=hrel;have hw2:=hw.out;subst hw2;clear hw
  by_cases hlt:i<l1.length
  ·by_cases hlt2:i<l2.length
   ·obtain ⟨b1,o1,rfl,hb1,d1⟩:=K1.out (by omega)
    obtain ⟨b2,o2,rfl,hb2,d2⟩:=K2.out (by omega);have x1:=d1 i hlt;have x2:=d2 i hlt2;have hd:=cmpL_drop hlt hlt2;generalize l1[i]=x at *;generalize l2[i]=y at *;have Hd:=ι hd;have HC:=ι (cmpCmp_any x y w);clear d1 d2 hd;obtain ⟨c,hc⟩:∃ c,Hid (cmpI x y=c):=⟨_,ι rfl⟩;rw [hc.out] at HC
    have hge:¬ (l2.length:Int)≤(i:Int):=by omega
    by_cases he:c=0
    ·subst he
     go_wp2_with (go_at_call 172; refine HC.out.mono ?_; rintro e w' ⟨rfl,rfl⟩)
     go_roundw
     case rel=>exact ⟨i+1,by go_num,by omega,by omega,by first | exact ι rfl | exact ι trivial,ι (by have:=hs.out; rw [Hd.out,if_pos hc.out] at this; exact this)⟩
     case measure=>simp [intOf]; omega
    ·have HR:=ι (show c=cmpL l1 l2 by rw [← hs.out,Hd.out,if_neg (by rw [hc.out]; exact he),hc.out])
     go_wp2_with (go_at_call 172; refine HC.out.mono ?_; rintro e w' ⟨rfl,rfl⟩)
     go_ret;exact ⟨by rw [← HR.out]; rfl,rfl⟩
   ·have hge:(l2.length:Int)≤(i:Int):=by omega
    obtain ⟨b1,o1,rfl,hb1,d1⟩:=K1.out (by omega);have x1:=d1 i hlt;generalize l1[i]=x at *;clear d1;go_wp2;go_ret;exact ⟨by rw [← hs.out,cmpL_one hlt (by omega)]; rfl,rfl⟩
  ·have he:=cmpL_end (a:=l1) (b:=l2) (k:=i) (by omega) hi2 hi
   have HE:=ι (he.symm.trans hs.out);clear he
   by_cases hl:l1.length<l2.length
   ·have hlN:(l1.length:Int)<(l2.length:Int):=by omega
    go_wp2;go_ret;exact ⟨by rw [← HE.out,if_pos (by omega)]; rfl,rfl⟩
   ·have hlN:¬ (l1.length:Int)<(l2.length:Int):=by omega
    go_wp2;go_ret;exact ⟨by rw [← HE.out,if_neg (by omega)]; rfl,rfl⟩
end Go.Proofs.YthehbckogieimaaGreat

namespace Go.Proofs.YthehbckogieimaaGreat
open Go.RowKit
open Go.Proofs
open Go.Proofs.Ob
open Go.Proofs.Cm (Gd Gr)
attribute [local irreducible] Go.Calls Go.wpList
theorem RowH.withM {B:Nat} {F M N:Nat→Prop} {W:World} {v:Value} {l:List (List Nat)} (h:RowH B F M W v l) (hN:∀ k,v.ownBlock=some k→¬ N k):RowH B F N W v l:=⟨h.size,h.own,fun k e=>⟨(h.off k e).1,hN k e⟩⟩
theorem RowH.pop {B:Nat} {F M:Nat→Prop} {W:World} {a:Option Addr} {n c:Nat} {l:List (List Nat)} {x:List Nat} (h:RowH B F M W (.slice a (n+1) c) (l++[x])) (hn:l.length=n):RowH B F M W (.slice a n c) l:=by
 obtain ⟨us,⟨h1,h2⟩,h3⟩:=h.own
 have hl:us.length=n+1:=by simp [hn] at h1; exact h1
 have he:Rg.FElts F W (us.take n) (l.map Ma.ofN):=by
  have:=h3.take n
  rwa [List.map_append,List.take_append_of_le_length (by rw [List.length_map,hn]; exact Nat.le_refl _),List.take_of_length_le (l:=l.map Ma.ofN) (by rw [List.length_map,hn]; exact Nat.le_refl _)] at this
 refine ⟨h.size,⟨us.take n,⟨by simp [hn,hl],?_⟩,he⟩,fun k e=>h.off k (by cases a with | none=>simp [Value.ownBlock] at e | some b=>exact e)⟩
 rcases h2 with ⟨_,h2⟩ | ⟨g,cap,cur,hv,hg,hc,h5,h6,h7,h8⟩
 ·simp at h2
 ·simp only [Value.slice.injEq] at hv
  obtain ⟨rfl,_,rfl⟩:=hv;refine .inr ⟨g,c,cur,by rw [hn],hg,hc,by simp at h5; omega,h6,h7,?_⟩;have:=congrArg (List.take n) h8;rw [List.take_take] at this;rw [← this]
  congr 1
  simp [hn]
theorem RowH.at {B:Nat} {F M:Nat→Prop} {W:World} {v:Value} {l:List (List Nat)} (h:RowH B F M W v l) {i:Nat} (hi:i<l.length):∃ b c u,v=.slice (some ⟨b,0,none⟩) l.length c∧l.length≤c∧b<W.heap.size∧W.cell? ⟨b,i,none⟩=some u∧FP F W u l[i]:=by
 obtain ⟨us,h1,h2⟩:=h.own;obtain ⟨-,a,c,rfl,h3,h4,h5⟩:=Rg.own_elts h1 h2;rw [List.length_map] at h3;obtain ⟨g,rfl,hg,hx⟩:=h5 (by rw [List.length_map]; omega);obtain ⟨u,hu1,hu2⟩:=hx i (by simpa using hi);exact ⟨g,c,u,congrArg (fun n=>Value.slice _ n c) (List.length_map ..),h3,hg,hu1,by rw [List.getElem_map] at hu2; exact hu2⟩

theorem RowH.one {B:Nat} {F M:Nat→Prop} {W:World} {u:Value} {x:List Nat} (hB:B≤W.heap.size) (hu:FP F W u x) (hs:∃ a m c,u=.slice a m c) (hF:∀ k,F k→k<W.heap.size) (hM:∀ k,M k→k<W.heap.size) :
  RowH B F M (W.alloc (.cells #[u] 51)) (.slice (some ⟨W.heap.size,0,none⟩) 1 1) [x]:=by
 have hb:Below W.heap.size W (W.alloc (.cells #[u] 51)):=(Below.refl _ _).alloc (Nat.le_refl _) _;refine ⟨Nat.le_trans hB hb.size,⟨[u],⟨rfl,.inr ⟨W.heap.size,1,#[u],rfl,hB,by show (W.heap.push _)[W.heap.size]?=_; simp,Nat.le_refl _,by decide,rfl,rfl⟩⟩,?_⟩,fun k e=>?_⟩
 ·exact Rg.FElts.one (Rg.FI.kp hu (Rg.Kp.of_below hb) (fun _ _=>id))
 ·simp only [Value.ownBlock,Option.some.injEq] at e
  subst e;exact ⟨fun h=>Nat.lt_irrefl _ (hF _ h),fun h=>Nat.lt_irrefl _ (hM _ h)⟩
end Go.Proofs.YthehbckogieimaaGreat

namespace Go.Proofs.YthehbckogieimaaGreat
open Go.RowKit
open Go.Proofs
open Go.Proofs.Cm (Gd Gr ap)
attribute [local irreducible] Go.Calls Go.wpList
theorem kp_below {B:Nat} {M:Nat→Prop} {W0 W X:World} (hb:Below B W0 W) (hB:B≤W.heap.size) (hk:Rg.Kp M W X) (hM:∀ k,M k→B≤k):Below B W0 X :=
 hb.trans ⟨hk.os,hk.tape,hk.output,hk.size,fun k h=>hk.block k (Nat.lt_of_lt_of_le h hB) fun e=>Nat.lt_irrefl _ (Nat.lt_of_lt_of_le h (hM k e))⟩
theorem FP.own {F:Nat→Prop} {W W':World} {v:Value} {x:List Nat} {m:Nat} (h:W'.ownsRow W.heap.size 3 1 v m ((Ma.ofN x).map (Value.int .i64))) (hm:m≤1000000000):FP (Fup F W W') W' v x :=
 Rg.FVals.of (Rg.Vals.of_row h hm) (fun k e=>.inr (h.lt k e))
theorem cell_kp {M:Nat→Prop} {W X:World} {b o:Nat} {u:Value} (h:W.cell? ⟨b,o,none⟩=some u) (hk:Rg.Kp M W X) (hM:¬ M b):X.cell? ⟨b,o,none⟩=some u:=(World.cell?_of_block (a:=⟨b,o,none⟩) (hk.block b (lt_of_cell h) hM)).trans h
end Go.Proofs.YthehbckogieimaaGreat
