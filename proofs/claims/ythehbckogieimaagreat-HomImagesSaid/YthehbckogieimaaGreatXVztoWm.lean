/- Lemmas and contracts on the way to the statement; no condition of their own beyond those written. -/
import Derived.Test.YthehbckogieimaaGreatXVntoCg
import Derived.Deep.CutRange
import Derived.Deep.CutBlock
import Derived.IntWalk
import Derived.Great.BuildSlice
import Derived.ArgAppend
import Derived.Laws.CopyOwn
import Derived.StillTailTactics
import Derived.Deep.MidRow
import Derived.WalkSpells
import Derived.WalkLawsBesides
import Derived.Maps.AppendAt
import Derived.OwnWalk
import Derived.OrdersHeld
import Derived.Deep.OwnRows
import Derived.WalkKit
import Derived.Lib.Hide
import Derived.Laws.OwnMore
import Derived.Test.YthehbckogieimaaGreatProg
import Derived.Outline
import Derived.Deep.DeepFit
import Derived.BigQuiet
import Derived.Deep.QuietTactic
import Derived.Sort.OwnSortedInts
import Derived.WideMake
import Derived.MapKept
import Derived.ChangeMaps5
import Derived.Shelf.Sort.Plain
import Derived.RangeFuncBox
import Derived.RangeFuncLeaves
import Derived.Shelf.Abstract
import Derived.OwnWalkIn
import Derived.TacticsInMore
import Derived.LoopNIn
import Derived.LoopIn
set_option linter.unusedVariables false
set_option linter.unusedSimpArgs false
set_option maxRecDepth 100000
set_option maxHeartbeats 8000000
namespace Go.Proofs.YthehbckogieimaaGreat
open Go.RowKit
open Go.Proofs
open Go.Proofs.Cm (Lv Twr trOf)
attribute [local irreducible] Go.Calls
theorem Vzcl0 (args:Array Value) (w:World):(callFunc 194 args).run Tryz.prog w=.ok (.enter 194 args) w:=by kernel_rfl
theorem Vzcl1 (args:Array Value) (w:World):(callFunc 193 args).run Tryz.prog w=.ok (.enter 193 args) w:=by kernel_rfl
theorem Vzcl2 (args:Array Value) (w:World):(callFunc 195 args).run Tryz.prog w=.ok (.enter 195 args) w:=by kernel_rfl
theorem Vzcl3 (args:Array Value) (w:World):(callFunc 123 args).run Tryz.prog w=.ok (.enter 123 args) w:=by kernel_rfl
structure OwI (B:Nat) (W:World) (v:Value) (l:List Int):Prop where
 own:W.ownsRow B 3 1 v l.length (l.map (Value.int .i64))
theorem OwI.below {B:Nat} {W W':World} {v:Value} {l:List Int} (h:OwI B W v l) (hb:Below W.heap.size W W'):OwI B W' v l:=⟨Rg.row_below h.own hb⟩
structure SZ (m:Nat) (W:World):Prop where
 le:m≤W.heap.size
theorem SZ.below {m:Nat} {W W':World} (h:SZ m W) (hb:Below W.heap.size W W'):SZ m W':=⟨Nat.le_trans h.le hb.size⟩
theorem RowP.lt {B:Nat} {W:World} {v:Value} {ll:List (List Int)} (h:RowP B W v ll):∀ k,v.ownBlock=some k→B≤k∧k<W.heap.size:=fun k e=>by
 obtain ⟨us,h1,_⟩:=h.own;exact h1.lt k e
theorem RowP.shape {B:Nat} {W:World} {v:Value} {ll:List (List Int)} (h:RowP B W v ll):∃ a c,v=.slice a ll.length c:=by
 obtain ⟨us,h1,_⟩:=h.own;exact Rg.row_shape h1
theorem RowP.frows {B:Nat} {W:World} {v:Value} {ll:List (List Int)} (h:RowP B W v ll) (hl:ll.length≤1000000000) {G:Nat→Prop} (hG:∀ k,B≤k→k<W.heap.size→G k):Rg.FRows G W v ll:=by
 obtain ⟨us,h1,h2⟩:=h.own;exact ⟨us,Rg.FVals.of (Rg.Vals.of_row h1 hl) (fun k e=>hG k (h1.lt k e).1 (h1.lt k e).2),h2.mono fun k g=>hG k g.1 g.2.1⟩
theorem OwI.fi {B:Nat} {W:World} {v:Value} {l:List Int} (h:OwI B W v l) (hl:l.length≤1000000000) {G:Nat→Prop} (hG:∀ k,B≤k→k<W.heap.size→G k):Rg.FI G W v l :=
 Rg.FVals.of (Rg.Vals.of_row h.own hl) (fun k e=>hG k (h.own.lt k e).1 (h.own.lt k e).2)
theorem Tri.set1 {w:World} {b:Nat} {u1 u2 u3:Value} (h:Tri w b u1 u2 u3) (y:Value):Tri (w.setCell ⟨b,1,none⟩ y) b u1 y u3:=by
 refine ⟨?_,World.cell?_setCell_same (h:=h.c1) ..,?_,?_,?_,?_,by simpa using h.lt⟩
 ·rw [World.cell?_setCell_other (h:=by intro e; injection e with e1 e2; omega) ..]; exact h.c0
 ·rw [World.cell?_setCell_other (h:=by intro e; injection e with e1 e2; omega) ..]; exact h.c2
 ·rw [World.frozen?_setCell]; exact h.f0
 ·rw [World.frozen?_setCell]; exact h.f1
 ·rw [World.frozen?_setCell]; exact h.f2
theorem ChR.shapeO {B:Nat} {W:World} {tc:Nat} {c0 c1 c2 ov rv:Value} {O:List (List Int)} {R:List (List (List Int))} (h:ChR B W tc c0 c1 c2 ov rv O R):∃ a c,ov=.slice a O.length c:=by
 obtain ⟨us,vs,h1,_⟩:=h.own;exact Rg.row_shape h1
theorem ChR.shapeR {B:Nat} {W:World} {tc:Nat} {c0 c1 c2 ov rv:Value} {O:List (List Int)} {R:List (List (List Int))} (h:ChR B W tc c0 c1 c2 ov rv O R):∃ a c,rv=.slice a R.length c:=by
 obtain ⟨us,vs,_,h1,_⟩:=h.own;exact Rg.row_shape h1
theorem ChR.kp {M:Nat→Prop} {B:Nat} {W W':World} {tc:Nat} {c0 c1 c2 ov rv:Value} {O:List (List Int)} {R:List (List (List Int))} (h:ChR B W tc c0 c1 c2 ov rv O R) (hk:Rg.Kp M W W') (hM:∀ z,M z→z<B):ChR B W' tc c0 c1 c2 ov rv O R:=by
 obtain ⟨us,vs,h1,h2,h3,h4⟩:=h.own
 have hg:∀ z,GS2 B W tc ov rv z→¬ M z:=fun z g e=>by have:=hM z e; have:=g.1; omega
 have hm:∀ z,GS2 B W tc ov rv z→GS2 B W' tc ov rv z:=fun z g=>g.up hk.size;exact ⟨h.tri.kp hk (fun e=>by have:=hM _ e; have:=h.low; omega),h.low,⟨us,vs,rowKp h1 hk (fun z e e2=>by have:=hM z e; have:=(h1.lt z e2).1; omega),rowKp h2 hk (fun z e e2=>by have:=hM z e; have:=(h2.lt z e2).1; omega),(h3.kp hk hg).mono hm,FElts2.mono (FElts2.kp h4 hk hg) hm⟩,h.apart,h.ot,h.rt⟩
def FRows2 (F:Nat→Prop) (w:World) (v:Value) (lll:List (List (List Int))):Prop:=∃ us,Rg.FVals F w v us∧Rg.FElts2 F w us lll
theorem FRows2.rows {F:Nat→Prop} {w:World} {v:Value} {lll:List (List (List Int))} (h:FRows2 F w v lll):Rows2 w v lll:=by
 obtain ⟨us,h1,h2⟩:=h;exact ⟨us,h1.vals,h2.1,fun i a b=>FRows.rows (h2.2 i a b)⟩
theorem FRows2.kp {F M:Nat→Prop} {w w':World} {v:Value} {ll:List (List (List Int))} (h:FRows2 F w v ll) (hk:Rg.Kp M w w') (hF:∀ k,F k→¬ M k):FRows2 F w' v ll:=by
 obtain ⟨us,h1,h2⟩:=h;exact ⟨us,h1.kp hk hF,FElts2.kp h2 hk hF⟩
theorem ChR.frO {B:Nat} {W:World} {tc:Nat} {c0 c1 c2 ov rv:Value} {O:List (List Int)} {R:List (List (List Int))} (h:ChR B W tc c0 c1 c2 ov rv O R) (hl:O.length≤1000000000):Rg.FRows (fun z=>B≤z) W ov O:=by
 obtain ⟨us,vs,h1,h2,h3,h4⟩:=h.own;exact ⟨us,Rg.FVals.of (Rg.Vals.of_row h1 hl) (fun k e=>(h1.lt k e).1),h3.mono fun _ g=>g.1⟩
theorem ChR.frR {B:Nat} {W:World} {tc:Nat} {c0 c1 c2 ov rv:Value} {O:List (List Int)} {R:List (List (List Int))} (h:ChR B W tc c0 c1 c2 ov rv O R) (hl:R.length≤1000000000):FRows2 (fun z=>B≤z) W rv R:=by
 obtain ⟨us,vs,h1,h2,h3,h4⟩:=h.own;exact ⟨vs,Rg.FVals.of (Rg.Vals.of_row h2 hl) (fun k e=>(h2.lt k e).1),FElts2.mono h4 fun _ g=>g.1⟩
structure Pend (B:Nat) (W:World) (tc:Nat) (c0 c1 c2 ov rv:Value) (O:List (List Int)) (R:List (List (List Int))) (x5:Value) (l5:List Int) (x6:Value) (l6:List (List Int)):Prop where
 ch:ChR B W tc c0 c1 c2 ov rv O R
 f5:Rg.FI (GS2 B W tc ov rv) W x5 l5
 f6:Rg.FRows (GS2 B W tc ov rv) W x6 l6
theorem frows_below {B:Nat} {W W':World} {tc:Nat} {ov rv x6:Value} {l6:List (List Int)} (h:Rg.FRows (GS2 B W tc ov rv) W x6 l6) (hb:Below W.heap.size W W'):Rg.FRows (GS2 B W' tc ov rv) W' x6 l6 :=
 FRows.mono (FRows.kp (M:=fun _=>False) h (Rg.Kp.of_below hb) (fun _ _=>id)) (fun _ g=>g.up hb.size)
theorem Pend.below {B:Nat} {W W':World} {tc:Nat} {c0 c1 c2 ov rv:Value} {O:List (List Int)} {R:List (List (List Int))} {x5:Value} {l5:List Int} {x6:Value} {l6:List (List Int)} (h:Pend B W tc c0 c1 c2 ov rv O R x5 l5 x6 l6) (hb:Below W.heap.size W W'):Pend B W' tc c0 c1 c2 ov rv O R x5 l5 x6 l6 :=
 ⟨h.ch.below hb,Rg.FI.mono (Rg.FI.kp (M:=fun _=>False) h.f5 (Rg.Kp.of_below hb) (fun _ _=>id)) (fun _ g=>g.up hb.size),frows_below h.f6 hb⟩
theorem CL.c {w:World} {b o:Nat} {v:Value} (h:CL w b o v):w.cell? ⟨b,o,none⟩=some v:=h.cell
theorem chain_any {n:Nat} (hn1:1≤n) (hn2:n≤64) {F:Nat→Prop} {L tb:Nat} {w:World} {T:Twr} {V:Nat→LV} {H:List Nat→Prop} (hT:TowAt F L n w T V) (hc0:CF F w tb 0 (.int .i64 ((n:Nat):Int))) (hc1:CF F w tb 1 (.slice (some ⟨L,0,none⟩) n n)) (hH:Cm.IsG n H) (htr:Cm.IsTr n H (trOf T)) (hl:∀ j,j<n→Cm.Lvl n T j) :
  Calls Tryz.prog 118 #[.pointer (some ⟨tb,0,none⟩)] w fun e w'=>∃ ov rv O R,e=.returned (.agg #[.int .i64 ((n:Nat):Int),ov,rv])∧Rg.FRows (fun z=>w.heap.size≤z) w' ov (O.map Ma.ofN)∧FRows2 (fun z=>w.heap.size≤z) w' rv (R.map (List.map Ma.ofN))∧Cm.IsChain n H O R∧Below w.heap.size w w':=by
 have K:=ι (Below.refl w.heap.size w);have HT:=ι hT;have C0:=ι hc0;have C1:=ι hc1;have HH:=ι hH;have HTR:=ι htr;have HL:=ι hl;clear hT hc0 hc1 hH htr hl
 go_enter Tryz.func118,Tryz.ntmps118
 go_upto_region 0 with (fail);refine Rg.wl ?_;have hnew:=Tri.new w (.int .i64 0) (.slice none 0 0) (.slice none 0 0);refine Rg.lr 2 (exec_allocC rfl) ?_;go_frame;have hb:=(Below.refl w.heap.size w).alloc (Nat.le_refl _) (.cells #[.int .i64 0,.slice none 0 0,.slice none 0 0] 54);generalize w.alloc (.cells #[.int .i64 0,.slice none 0 0,.slice none 0 0] 54)=w1 at *;replace HT:=ι (HT.out.below hb);replace C0:=ι (C0.out.below hb);replace C1:=ι (C1.out.below hb);replace K:=ι (Rg.acc K.out hb);clear hb;have FT:=ι hnew;have K1:=ι (Below.refl w1.heap.size w1);have hlo1:=(FT.out.lt);clear hnew;go_upto_region 1 with (fail);refine Rg.wl ?_;refine Rg.lm 9 (.pointer (some ⟨tb,0,none⟩)) ?_;go_frame;refine Rg.lr 10 (exec_nil _ rfl rfl) ?_;go_frame;refine Rg.lr 11 (exec_field _ rfl rfl (towF0 _ _)) ?_;go_frame;refine Rg.lr 12 (Rg.exec_load (v:=.int .i64 ((n:Nat):Int)) _ _ rfl ⟨tb,0,none⟩ rfl (run_loadInt ((Below.cell (p:=⟨tb,0,none⟩) K1.out C0.out.lt).trans C0.out.cell))) ?_;go_frame
 refine Rg.lr 13 (exec_buildC1 (d:=((n:Nat):Int)) _ rfl rfl) ?_;go_frame;have hnew:=Tri.new w1 (.int .i64 0) (.slice none 0 0) (.slice none 0 0);refine Rg.lr 3 (exec_allocC rfl) ?_;go_frame;have hb:=(Below.refl w1.heap.size w1).alloc (Nat.le_refl _) (.cells #[.int .i64 0,.slice none 0 0,.slice none 0 0] 54);generalize w1.alloc (.cells #[.int .i64 0,.slice none 0 0,.slice none 0 0] 54)=w2 at *;replace K1:=ι (Rg.acc K1.out hb);clear hb;have FC:=ι hnew;refine Rg.list_skip none rfl rfl (Rg.exec_store _ _ _ rfl _ rfl _ rfl (run_storeC _ _ _ _ _ _ _ FC.out)) ?_;go_frame;clear hnew;replace FC:=ι (FC.out.set (.int .i64 ((n:Nat):Int)) (.slice none 0 0) (.slice none 0 0));replace K1:=ι (((K1.out.setCell (p:=⟨w1.heap.size,0,none⟩) (Nat.le_refl _) (.int .i64 ((n:Nat):Int))).setCell (p:=⟨w1.heap.size,1,none⟩) (Nat.le_refl _) (.slice none 0 0)).setCell (p:=⟨w1.heap.size,2,none⟩) (Nat.le_refl _) (.slice none 0 0))
 generalize (((w2).setCell ⟨w1.heap.size,0,none⟩ (.int .i64 ((n:Nat):Int))).setCell ⟨w1.heap.size,1,none⟩ (.slice none 0 0)).setCell ⟨w1.heap.size,2,none⟩ (.slice none 0 0)=w5 at *;have CH:=ι (ChR.start FC.out (Nat.le_refl _));clear FC;go_upto_region 2 with (fail);refine Rg.wl ?_;refine Rg.lm 14 (.pointer (some ⟨tb,0,none⟩)) ?_;go_frame;refine Rg.lr 15 (exec_nil _ rfl rfl) ?_;go_frame;refine Rg.lr 16 (exec_field _ rfl rfl (towF1 _ _)) ?_;go_frame;refine Rg.lr 17 (Rg.exec_load (v:=.slice (some ⟨L,0,none⟩) n n) _ _ rfl ⟨tb,1,none⟩ rfl (Rg.run_loadSl _ _ Tryz.underlying200 ((Below.cell (p:=⟨tb,1,none⟩) K1.out C1.out.lt).trans C1.out.cell))) ?_;go_frame;refine Rg.lr 18 (exec_len _ _ _ rfl Tryz.underlying200 _ _ _ rfl) ?_;go_frame;refine Rg.lm 19 (.int .i64 ((0:Nat):Int)) ?_;go_frame;have HPC:=ι (Cm.PC.nil n H (trOf T));go_wp2
 go_loopw [19] (fun iv wr=>∃ (k:Nat) (ov rv:Value) (O:List (List Nat)) (R:List (List (List Nat))),iv=.int .i64 k∧k≤n∧Hid (ChR w1.heap.size wr w1.heap.size (.int .i64 ((n:Nat):Int)) ov rv ov rv (O.map Ma.ofN) (R.map (List.map Ma.ofN)))∧Hid (Below w1.heap.size w1 wr)∧Hid (Cm.PC n H (trOf T) k O R)) (fun iv _=>n - (intOf iv).toNat)
 case atStart=>exact ⟨0,_,_,[],[],rfl,Nat.zero_le _,CH,K1,HPC⟩
 case round =>
  clear CH K1 HPC;obtain ⟨k,ov,rv,O,R,rfl,hk,CH,K1,HPC⟩:=hrel;have hsO:=CH.out.shapeO;have hsR:=CH.out.shapeR;rw [List.length_map] at hsO hsR;obtain ⟨ova,ovc,rfl⟩:=hsO;obtain ⟨rva,rvc,rfl⟩:=hsR
  by_cases hkl:k<n
  ·have hkN:(k:Int)<(n:Int):=by omega
   have hlk:=HL.out k hkl;have hon:=Cm.orb_len hlk;have hko:1≤(T k).orb.length:=List.length_pos_of_mem ((hlk.orb k).2 ⟨_,hlk.self⟩);obtain ⟨l,hl1,hl2,hl3,hl4⟩:=Cm.sort_nat (T k).orb hlk.nd;have HA1:=ι (show Ob.asc (Ma.ofN (T k).orb)=Ma.ofN l by rw [Ob.asc_sort]; exact hl1);have HA2:=ι hl2;have HA3:=ι hl3;have HA4:=ι hl4;obtain ⟨oa,oc,hVo⟩:=HT.out.orbL hkl;have CO:=ι (CL.mk (show w1.cell? ⟨L,k*194+1,none⟩=some (.slice oa (T k).orb.length oc) by rw [getO HT.out hkl rfl,hVo]) HT.out.lt);have SI:=ι (show SInts w1.heap.size w1 (.slice oa (T k).orb.length oc) (Ma.ofN (T k).orb) by have:=SInts.of_own (HT.out.lv k hkl).oown (by rw [Ma.len_ofN]) hko; rwa [hVo] at this);have HKL:=ι hkl;have HLTS:=ι (show (∀ z,(Value.slice ova O.length ovc).ownBlock=some z→z<wr.heap.size)∧(∀ z,(Value.slice rva R.length rvc).ownBlock=some z→z<wr.heap.size)∧w1.heap.size<wr.heap.size from ⟨fun z e=>(CH.out.lts.1 z e).2,fun z e=>(CH.out.lts.2 z e).2,CH.out.tri.lt⟩)
   have SZ1:=ι (SZ.mk (Nat.le_refl wr.heap.size))
   have hkl1:1≤(Ma.ofN (T k).orb).length:=by rw [Ma.len_ofN]; exact hko
   have hkl2:(Ma.ofN (T k).orb).length≤1000000:=by rw [Ma.len_ofN]; omega
   have HO1:=ι (show l.length≤64 by rw [hl4]; omega);have HO2:=ι (show 1≤l.length by rw [hl4]; exact hko);clear hlk hl1 hl2 hl3 hl4 hVo;go_upto_region 5 with (fail);refine Rg.wl ?_;refine Rg.lm 22 (.pointer (some ⟨tb,0,none⟩)) ?_;go_frame;refine Rg.lr 23 (exec_nil _ rfl rfl) ?_;go_frame;refine Rg.lr 24 (exec_field _ rfl rfl (towF1 _ _)) ?_;go_frame;refine Rg.lr 25 (Rg.exec_load (v:=.slice (some ⟨L,0,none⟩) n n) _ _ rfl ⟨tb,1,none⟩ rfl (Rg.run_loadSl _ _ Tryz.underlying200 ((Below.cell (p:=⟨tb,1,none⟩) K1.out C1.out.lt).trans C1.out.cell))) ?_;go_frame;refine Rg.lm 26 (.int .i64 ((k:Nat):Int)) ?_;go_frame;refine Rg.lr 27 (exec_indexZ0 _ _ rfl Tryz.underlying200 szLevel L (n) (n) (k) rfl rfl HKL.out) ?_;go_frame;refine Rg.lr 28 (exec_field _ rfl rfl (lvF1 _ _ _)) ?_;go_frame;refine Rg.lr 29 (Rg.exec_load (v:=.slice oa (T k).orb.length oc) _ _ rfl ⟨L,k*194+1,none⟩ rfl (Rg.run_loadSl _ _ Tryz.underlying36 ((Below.cell (p:=⟨L,k*194+1,none⟩) K1.out CO.out.lt).trans CO.out.cell))) ?_;go_frame
   refine Rg.lk 30 (exec_fn1 194 _ _ rfl rfl (Vzcl0 _ _)) ?_;refine (values_any _ _ _ wr).mono ?_;rintro e1 w11 ⟨fb,rfl,hcl,hb⟩;refine ⟨_,rfl,?_⟩;go_frame;replace CH:=ι (CH.out.below hb);replace SZ1:=ι (SZ1.out.below hb);replace K1:=ι (Rg.acc K1.out hb);clear hb;have FB:=ι hcl;have hszW:=SZ1.out.le;refine Rg.lk 31 (exec_fn1 193 _ _ rfl rfl (Vzcl1 _ _)) ?_;refine (Sorted_any fb _ _ hkl1 hkl2 w11 FB.out.lt FB.out.cell (SI.out.up K1.out)).mono ?_;rintro e1 w12 ⟨v,rfl,hrow,hb⟩;rw [HA1.out,Ma.len_ofN] at hrow;have hrow:=OwI.mk (l:=Ma.ofN l) (by rw [Ma.len_ofN,HA4.out]; exact hrow);have hq:=row_of hrow.own (k:=0) (by rw [Ma.len_ofN]; exact HO2.out);rw [Ma.len_ofN] at hq;obtain ⟨sb,sc,u0,rfl,_,_,_⟩:=hq;have HBB:=ι hszW;refine ⟨_,rfl,?_⟩;go_frame;replace CH:=ι (CH.out.below hb);replace SZ1:=ι (SZ1.out.below hb);replace FB:=ι (FB.out.below hb);replace K1:=ι (Rg.acc K1.out hb)
   clear hb;have R5:=ι hrow;refine Rg.la 5 (.slice (some ⟨sb,0,none⟩) l.length sc) ?_;go_frame;clear hcl hrow FB CO SI;replace HT:=ι (HT.out.below K1.out);replace C0:=ι (C0.out.below K1.out);replace C1:=ι (C1.out.below K1.out);replace FT:=ι (FT.out.below K1.out);have K5:=ι (Below.refl w12.heap.size w12);have RP:=ι (RowP.nil w12.heap.size w12);have HRS:=ι (show ∀ j,j<0→Cm.Lst n (fun z=>Cm.St H k z∧Cm.ap z k=l.getD j 0) (([]:List (List Nat)).getD j []) from fun j h=>absurd h (Nat.not_lt_zero _));go_wp2
   go_loopw [34,6] (fun iv tv wq=>∃ (m:Nat) (rs:List (List Nat)),iv=.int .i64 m∧m≤l.length∧rs.length=m∧Hid (RowP w12.heap.size wq tv (rs.map Ma.ofN))∧Hid (Below w12.heap.size w12 wq)∧Hid (∀ j,j<m→Cm.Lst n (fun z=>Cm.St H k z∧Cm.ap z k=l.getD j 0) (rs.getD j []))) (fun iv _ _=>l.length - (intOf iv).toNat)
   case atStart=>exact ⟨0,[],rfl,Nat.zero_le _,rfl,RP,K5,HRS⟩
   case round =>
    clear K5 RP HRS;obtain ⟨m,rs,rfl,hm,hrs,RP,K5,HRS⟩:=hrel
    have hlN:(l.length:Int)≤64:=by have:=HO1.out; omega
    obtain ⟨ta,tc,rfl⟩:=RP.out.shape
    by_cases hml:m<l.length
    ·have hmN:(m:Int)<(l.length:Int):=by omega
     obtain ⟨p,hp⟩:∃ p:Nat,Hid (p=l[m]):=⟨_,ι rfl⟩
     have hcell:w12.cell? ⟨sb,0+m,none⟩=some (.int .i64 ((p:Nat):Int)):=by
      obtain ⟨g,c,u,e1,e2,e3,_⟩:=row_of R5.out.own (k:=m) (by rw [Ma.len_ofN]; exact hml);simp only [Value.slice.injEq,Option.some.injEq,Addr.mk.injEq] at e1;obtain ⟨⟨rfl,_,_⟩,_,_⟩:=e1;rw [e2,← e3,hp.out];simp [Ma.ofN,List.getElem?_eq_getElem hml]
     have CS:=ι (CL.mk hcell (lt_of_cell hcell));obtain ⟨u,hu⟩:=((HL.out k HKL.out).orb p).1 ((HA3.out p).1 (by rw [hp.out]; exact List.getElem_mem hml));have hlk:=HL.out k HKL.out;have hpn:=hlk.tlt p u hu
     have hp64:p<64:=by omega
     have GU:=ι (hlk.tgd p u hu);have HU:=ι hu;obtain ⟨ub,uo,uc,hVu,hUP⟩:=HT.out.toS HKL.out hp64 hu GU.out hn1;have UP:=ι hUP;have CU:=ι (CL.mk (show w12.cell? ⟨L,k*194+2+p,none⟩=some (.slice (some ⟨ub,uo,none⟩) n uc) by rw [getTo HT.out HKL.out hp64 (by omega),hVu]) HT.out.lt);have HML:=ι hml;have HRL:=ι hrs;clear hcell hu hlk hVu hUP hrs;go_upto_region 9 with (fail);refine Rg.wl ?_;refine Rg.lr 36 (exec_indexS slInts _ _ rfl sb (0) (l.length) sc (m) rfl rfl HML.out) ?_;go_frame;refine Rg.lr 37 (Rg.exec_load (v:=.int .i64 ((p:Nat):Int)) _ _ rfl ⟨sb,0+m,none⟩ rfl (run_loadInt ((Below.cell (p:=⟨sb,0+m,none⟩) K5.out CS.out.lt).trans CS.out.cell))) ?_;go_frame;refine Rg.la 8 (.int .i64 ((p:Nat):Int)) ?_;go_frame;go_upto_region 10 with (fail);refine Rg.wl ?_;refine Rg.lm 38 (.slice ta (rs.map Ma.ofN).length tc) ?_;go_frame;refine Rg.lm 39 (.pointer (some ⟨tb,0,none⟩)) ?_;go_frame
     refine Rg.lm 40 (.pointer (some ⟨tb,0,none⟩)) ?_;go_frame;refine Rg.lr 41 (exec_nil _ rfl rfl) ?_;go_frame;refine Rg.lr 42 (exec_field _ rfl rfl (towF1 _ _)) ?_;go_frame;refine Rg.lr 43 (Rg.exec_load (v:=.slice (some ⟨L,0,none⟩) n n) _ _ rfl ⟨tb,1,none⟩ rfl (Rg.run_loadSl _ _ Tryz.underlying200 ((Below.cell (p:=⟨tb,1,none⟩) K5.out C1.out.lt).trans C1.out.cell))) ?_;go_frame;refine Rg.lm 44 (.int .i64 ((k:Nat):Int)) ?_;go_frame;refine Rg.lm 45 (.int .i64 ((p:Nat):Int)) ?_;go_frame;refine Rg.lr 46 (exec_indexZ0 _ _ rfl Tryz.underlying200 szLevel L (n) (n) (k) rfl rfl HKL.out) ?_;go_frame;refine Rg.lr 47 (exec_field _ rfl rfl (lvF2 _ _ _)) ?_;go_frame;refine Rg.lr 48 (exec_indexArr _ _ rfl Tryz.underlying207 szP L (k*194+2) (p) rfl rfl hp64) ?_;go_frame;refine Rg.lr 49 (Rg.exec_load (v:=.slice (some ⟨ub,uo,none⟩) n uc) _ _ rfl ⟨L,k*194+2+p,none⟩ rfl (Rg.run_loadSl _ _ Tryz.underlying51 ((Below.cell (p:=⟨L,k*194+2+p,none⟩) K5.out CU.out.lt).trans CU.out.cell))) ?_;go_frame
     refine Rg.lm 50 (.int .i64 ((k:Nat):Int)) ?_;go_frame;refine Rg.lk 51 (exec_fn3 195 _ _ _ _ rfl rfl rfl rfl (Vzcl2 _ _)) ?_;refine (least_any hn1 hn2 (HT.out.below K5.out) (C0.out.below K5.out) (C1.out.below K5.out) HH.out HTR.out HL.out (UP.out.below K5.out) GU.out HKL.out).mono ?_;rintro e1 w41 ⟨F2,yv,y,rfl,_,_,hy,hli,hgy,hb⟩;have HLI:=ι hli;have GY:=ι hgy;refine ⟨_,rfl,?_⟩;go_frame;replace RP:=ι (RP.out.below hb);replace K5:=ι (Rg.acc K5.out hb);clear hb;have YN:=ι hy;have HLT6:=ι (fun z e=>(RP.out.lt z e).2);have HSZ6:=ι K5.out.size;refine Rg.lk 52 (exec_fn1 123 _ _ rfl rfl (Vzcl3 _ _)) ?_;refine (Clone_any _ (Ma.ofN y) w41 YN.out.np (by rw [Ma.len_ofN,GY.out.2]; exact hn1) (by rw [Ma.len_ofN,GY.out.2]; omega)).mono ?_;rintro e1 w42 ⟨cv,rfl,hrow,hb⟩;obtain ⟨ca,cc,rfl⟩:=Rg.row_shape hrow;have HROW:=ι hrow;refine ⟨_,rfl,?_⟩;go_frame;replace RP:=ι (RP.out.below hb)
     replace YN:=ι (YN.out.below hb);replace K5:=ι (Rg.acc K5.out hb);clear hb;refine Rg.lr 53 (Rg.exec_buildSlice _ _ _ rfl (.slice ca (Ma.ofN y).length cc) rfl (run_build1P w42 _ ⟨_,_,_,rfl⟩)) ?_;go_frame;obtain ⟨a9,c9,X9,r1,r2,r3⟩:=RP.out.push K5.out.size HROW.out (by rw [Ma.len_ofN,GY.out.2]; omega) (fun z e=>⟨by have:=(HROW.out.lt z e).1; have:=HSZ6.out; omega,fun e2=>by have:=(HROW.out.lt z e).1; have:=HLT6.out z e2; omega⟩) (by rw [List.length_map,HRL.out]; have:=HO1.out; have:=HML.out; omega) 22;refine Rg.lr 54 (Rg.exec_append _ _ _ rfl rfl rfl r1) ?_;go_frame;refine Rg.la 6 (.slice a9 ((rs.map Ma.ofN).length+1) c9) ?_;go_frame;have K6:=ι (r3 (Nat.le_refl _) K5.out);have RP2:=ι (show RowP w12.heap.size X9 (.slice a9 ((rs.map Ma.ofN).length+1) c9) ((rs++[y]).map Ma.ofN) by rw [List.map_append]; exact r2);have HLS:=ι (Cm.LI.done HH.out HKL.out ⟨HTR.out.mem k p u HKL.out HU.out,HTR.out.rp.fx k p u (Nat.zero_le _) HKL.out HU.out⟩ HLI.out)
     have HRS2:=ι (show ∀ j,j<m+1→Cm.Lst n (fun z=>Cm.St H k z∧Cm.ap z k=l.getD j 0) ((rs++[y]).getD j []) from fun j hj=>by
      have hl:=HRL.out
      by_cases e:j=m
      ·subst e
       have e1:(rs++[y]).getD j []=y:=by
        rw [List.getD_eq_getElem?_getD,List.getElem?_append_right (by omega),hl]; simp
       have e2:l.getD j 0=p:=by
        rw [hp.out,List.getD_eq_getElem?_getD,List.getElem?_eq_getElem HML.out]; rfl
       have e3:Cm.ap u k=p:=HTR.out.rp.at_ k p u (Nat.zero_le _) HKL.out HU.out;rw [e1,e2];have:=HLS.out
       rwa [e3] at this
      ·have e1:(rs++[y]).getD j []=rs.getD j []:=by
        rw [List.getD_eq_getElem?_getD,List.getD_eq_getElem?_getD,List.getElem?_append_left (by omega)]
       rw [e1]
       exact HRS.out j (by omega))
     have HRL2:=ι (show (rs++[y]).length=m+1 by rw [List.length_append,HRL.out]; rfl);clear r1 r2 r3;go_wp2
     go_roundw
     case rel=>exact ⟨m+1,rs++[y],by go_num,HML.out,HRL2.out,RP2,K6,HRS2⟩
     case measure=>simp [intOf]; have:=HML.out; omega
    ·obtain rfl:m=l.length:=by omega
     have hmN:¬ (l.length:Int)<(l.length:Int):=by omega
     replace CH:=ι (CH.out.below K5.out);replace K1:=ι (Rg.acc K1.out K5.out);have SZ5:=SZ1.out.le;replace SZ1:=ι (SZ1.out.below K5.out);have hR5:=R5.out.below K5.out
     have PD:=ι (Pend.mk CH.out (hR5.fi (by rw [Ma.len_ofN]; omega) (G:=GS2 w1.heap.size wr w1.heap.size (Value.slice ova O.length ovc) (Value.slice rva R.length rvc)) (fun z g1 g2=>⟨by have:=HBB.out; have:=HLTS.out.2.2; omega,g2,fun e=>by have:=HBB.out; have:=HLTS.out.1 z e; omega,fun e=>by have:=HBB.out; have:=HLTS.out.2.1 z e; omega,by have:=HBB.out; have:=HLTS.out.2.2; omega⟩))
      (RP.out.frows (by rw [List.length_map,hrs]; omega) (G:=GS2 w1.heap.size wr w1.heap.size (Value.slice ova O.length ovc) (Value.slice rva R.length rvc)) (fun z g1 g2=>⟨by have:=HLTS.out.2.2; omega,g2,fun e=>by have:=HLTS.out.1 z e; omega,fun e=>by have:=HLTS.out.2.1 z e; omega,by have:=HLTS.out.2.2; omega⟩)))
     have HRSL:=ι hrs;have HOL:=ι (show (O.map Ma.ofN).length<1000000 by rw [List.length_map,HPC.out.lenO]; omega);have HRLn:=ι (show (R.map (List.map Ma.ofN)).length<1000000 by rw [List.length_map,HPC.out.lenR]; omega);clear SZ5 hR5 CH RP R5 FT hrs;go_upto_region 12 with (fail);have hV1:Below wr.heap.size wr wr.drew:=(Below.refl _ _).drew;replace PD:=ι (PD.out.below hV1);replace K1:=ι (Rg.acc K1.out hV1);replace SZ1:=ι (SZ1.out.below hV1);clear hV1;have hV0:Below wr.heap.size wr wr.drew:=(Below.refl _ _).drew;generalize Fup F wr wr.drew=F1 at *;clear hV0;refine Rg.Any.begin (S:=Rg.Both 11 (fun W:World=>Tri W w1.heap.size (.int .i64 ((n:Nat):Int)) (Value.slice ova O.length ovc) (Value.slice rva R.length rvc)∧Below w1.heap.size w1 W) (fun _=>True)) mix ?_;generalize wr.drew=w61 at *;have hS:∀ (l:Array Bool) W,(fun W:World=>Tri W w1.heap.size (.int .i64 ((n:Nat):Int)) (Value.slice ova O.length ovc) (Value.slice rva R.length rvc)∧Below w1.heap.size w1 W) W→Rg.Both 11 (fun W:World=>Tri W w1.heap.size (.int .i64 ((n:Nat):Int)) (Value.slice ova O.length ovc) (Value.slice rva R.length rvc)∧Below w1.heap.size w1 W) (fun _=>True) l W:=fun l W h=>⟨.inr h,trivial⟩
     have hS2:∀ (l:Array Bool) W,l.getD 11 false=true→Rg.Both 11 (fun W:World=>Tri W w1.heap.size (.int .i64 ((n:Nat):Int)) (Value.slice ova O.length ovc) (Value.slice rva R.length rvc)∧Below w1.heap.size w1 W) (fun _=>True) l W:=fun l W h=>⟨.inl h,trivial⟩;have hI:(fun W:World=>Tri W w1.heap.size (.int .i64 ((n:Nat):Int)) (Value.slice ova O.length ovc) (Value.slice rva R.length rvc)∧Below w1.heap.size w1 W) w61:=⟨PD.out.ch.tri,K1.out⟩;refine Rg.tg 0 11 (.pointer (some ⟨w1.heap.size,1,none⟩)) 56 rfl rfl (.inl ⟨rfl,fun w _=>exec_field _ rfl rfl (chF1 _ _)⟩) (hS _ _ hI) ?_;go_frame;refine Rg.Any.takeT (i:=1) (t:=11) (v:=.slice ova O.length ovc) (some 57) rfl rfl (by kernel_rfl) (by kernel_rfl) (by kernel_rfl) (fun _ _ _ h=>h) rfl (by kernel_rfl) rfl (Rg.yields_cell _ _ rfl rfl ⟨w1.heap.size,1,none⟩ rfl (fun W hW=>Rg.run_loadSl _ _ Tryz.underlying27 hW.1.c1)) (hS _ _ hI) ?_;go_frame
     refine Rg.tm 2 11 (.slice (some ⟨sb,0,none⟩) l.length sc) 58 (hS _ _ hI) ?_;go_frame;refine Rg.tg 5 11 (.pointer (some ⟨w1.heap.size,2,none⟩)) 61 rfl rfl (.inl ⟨rfl,fun w _=>exec_field _ rfl rfl (chF2 _ _)⟩) (hS _ _ hI) ?_;go_frame;refine Rg.Any.takeT (i:=6) (t:=11) (v:=.slice rva R.length rvc) (some 62) rfl rfl (by kernel_rfl) (by kernel_rfl) (by kernel_rfl) (fun _ _ _ h=>h) rfl (by kernel_rfl) rfl (Rg.yields_cell _ _ rfl rfl ⟨w1.heap.size,2,none⟩ rfl (fun W hW=>Rg.run_loadSl _ _ Tryz.underlying52 hW.1.c2)) (hS _ _ hI) ?_;go_frame;refine Rg.tm 7 11 (.slice ta (rs.map Ma.ofN).length tc) 63 (hS _ _ hI) ?_;go_frame
     refine Rg.Any.c2f1q (i:=3) (k:=4) (j:=8) (q:=10) (di:=59) (dk:=60) (dj:=64) (dq:=66) (vq:=.pointer (some ⟨w1.heap.size,1,none⟩)) (I:=fun W=>(fun W:World=>Tri W w1.heap.size (.int .i64 ((n:Nat):Int)) (Value.slice ova O.length ovc) (Value.slice rva R.length rvc)∧Below w1.heap.size w1 W) W∧w61.heap.size≤W.heap.size) (R0:=fun W=>Pend w1.heap.size W w1.heap.size (.int .i64 ((n:Nat):Int)) (Value.slice ova O.length ovc) (Value.slice rva R.length rvc) (Value.slice ova O.length ovc) (Value.slice rva R.length rvc) (O.map Ma.ofN) (R.map (List.map Ma.ofN)) (.slice (some ⟨sb,0,none⟩) l.length sc) (Ma.ofN l) (.slice ta (rs.map Ma.ofN).length tc) (rs.map Ma.ofN)) (Ri:=fun u W=>Rg.BlkF w61.heap.size [.slice (some ⟨sb,0,none⟩) l.length sc] u W) (Rk:=fun x W=>ChR w1.heap.size W w1.heap.size (.int .i64 ((n:Nat):Int)) (Value.slice ova O.length ovc) (Value.slice rva R.length rvc) x (Value.slice rva R.length rvc) (O.map Ma.ofN++[Ma.ofN l]) (R.map (List.map Ma.ofN))∧Rg.FRows (GS2 w1.heap.size W w1.heap.size x (Value.slice rva R.length rvc)) W (.slice ta (rs.map Ma.ofN).length tc) (rs.map Ma.ofN)∧∃ a c,x=.slice a (O.length+1) c) (Rj:=fun v W=>Rg.BlkF w61.heap.size [.slice ta (rs.map Ma.ofN).length tc] v W) (fun l W h=>hS l W h.1)
      (by decide) (by decide) (by decide) (by decide) (by decide) (by decide) (by kernel_rfl) (by kernel_rfl) (by kernel_rfl) (by kernel_rfl) (by kernel_rfl) ?_ ?_
      (fun _ _ hb h=>h.below hb) (fun _ _ _ hb h=>h.below hb) (fun _ _ _ hb h=>⟨h.1.below hb,frows_below h.2.1 hb,h.2.2⟩) (fun _ _ _ hb h=>h.below hb) ?_ ?_ ?_ ⟨hI,Nat.le_refl _⟩ (PD.out) ?_
     ·intro u x W m hs h
      exact Rg.Any.takeG (i:=10) (t:=11) (v:=.pointer (some ⟨w1.heap.size,1,none⟩)) (some 66) rfl rfl (by kernel_rfl) (by kernel_rfl) (by kernel_rfl) (fun _ _ _ h=>h) rfl (.inl ⟨rfl,fun w _=>exec_field _ rfl rfl (chF1 _ _)⟩) hs h
     ·intro u v x W m hs h
      exact Rg.Any.takeG (i:=10) (t:=11) (v:=.pointer (some ⟨w1.heap.size,1,none⟩)) (some 66) rfl rfl (by kernel_rfl) (by kernel_rfl) (by kernel_rfl) (fun _ _ _ h=>h) rfl (.inl ⟨rfl,fun w _=>exec_field _ rfl rfl (chF1 _ _)⟩) hs h
     ·intro b hb W hW
      have hbA:Below W.heap.size W (W.alloc (.cells #[.slice (some ⟨sb,0,none⟩) l.length sc] 36)):=(Below.refl _ _).alloc (Nat.le_refl _) _
      exact Rg.doesRun rfl rfl (by rcases hb with rfl | ⟨u,rfl⟩ <;> rfl) (Rg.exec_buildSlice _ _ _ rfl (.slice (some ⟨sb,0,none⟩) l.length sc) (by rcases hb with rfl | ⟨u,rfl⟩ <;> rfl) (run_build1L W _ ⟨_,_,_,rfl⟩)) ⟨⟨⟨hW.1.1.below hbA,Rg.acc hW.1.2 hbA⟩,by simp; have:=hW.2; omega⟩,Rg.BlkF.new W [.slice (some ⟨sb,0,none⟩) l.length sc] 36 hW.2,hbA⟩
     ·intro b hb W hW
      have hbA:Below W.heap.size W (W.alloc (.cells #[.slice ta (rs.map Ma.ofN).length tc] 22)):=(Below.refl _ _).alloc (Nat.le_refl _) _
      exact Rg.doesRun rfl rfl (by rcases hb with rfl | ⟨u,rfl⟩ | ⟨u,v,rfl⟩ <;> rfl) (Rg.exec_buildSlice _ _ _ rfl (.slice ta (rs.map Ma.ofN).length tc) (by rcases hb with rfl | ⟨u,rfl⟩ | ⟨u,v,rfl⟩ <;> rfl) (run_build1PP W _ ⟨_,_,_,rfl⟩)) ⟨⟨⟨hW.1.1.below hbA,Rg.acc hW.1.2 hbA⟩,by simp; have:=hW.2; omega⟩,Rg.BlkF.new W [.slice ta (rs.map Ma.ofN).length tc] 22 hW.2,hbA⟩
     ·intro u b hb W hW h0 hu
      obtain ⟨pu,rfl,hp0,hp1,hp2⟩:=hu;obtain ⟨a2,c2,X,r1,r2,r3,r4⟩:=h0.ch.pushO hW.1.2.size h0.f5 rfl HOL.out (hp2 0 (by simp)) 27;have hkX:=Rg.Kp.of_grown r3 (M:=fun z=>(Value.slice ova O.length ovc).ownBlock=some z) (fun _ e=>e)
      exact Rg.doesRun rfl rfl (by rcases hb with rfl | ⟨v,rfl⟩ <;> rfl) (Rg.exec_append _ _ _ rfl (by rcases hb with rfl | ⟨v,rfl⟩ <;> rfl) (by rcases hb with rfl | ⟨v,rfl⟩ <;> rfl) r1) ⟨⟨⟨r2.tri,hW.1.2.grown r3 hW.1.2.size (fun j e=>(h0.ch.lts.1 j e).1)⟩,Nat.le_trans hW.2 r3.size⟩,⟨r2,FRows.mono (FRows.kp h0.f6 hkX (fun z g e=>g.2.2.1 e)) r4,_,_,by rw [List.length_map]⟩,fun v hv=>hv.grown r3 (fun j e=>Nat.lt_of_lt_of_le (HLTS.out.1 j e) SZ1.out.le)⟩
     rintro w62 fu fx fv hb hk hj;have hI2_f:=hb.1;have hVsz:=hb.2;clear hb hI;go_frame;have FK:=ι hk;have FJ:=ι hj;obtain ⟨pj,hje,hj0,hj1,hj2⟩:=FJ.out;subst hje;obtain ⟨a2,c2,hfx⟩:=FK.out.2.2;subst hfx;obtain ⟨a3,c3,X3,q1,q2,q3⟩:=FK.out.1.pushR hI2_f.2.size FK.out.2.1 rfl HRLn.out (hj2 0 (by simp)) 52;rw [List.length_map] at q1 q2;have hI3_m:=(show _∧_ from ⟨q2.tri,hI2_f.2.grown q3 hI2_f.2.size (fun j e=>(FK.out.1.lts.2 j e).1)⟩);refine Rg.Any.one (i:=9) (by kernel_rfl) (Rg.Any.run (some 65) rfl rfl rfl (Rg.exec_append _ _ _ rfl rfl rfl q1) (hS _ _ hI3_m) ?_);go_frame;have KX:=ι hI3_m.2;refine Rg.Any.one (i:=11) (by kernel_rfl) (Rg.Any.runSkip none rfl rfl rfl (Rg.exec_store _ _ _ rfl _ rfl _ rfl (Rg.run_storeSl _ infoIntss q2.tri.c1 q2.tri.f1)) (hS2 _ _ rfl) ?_);go_frame;refine Rg.tg 12 11 (.pointer (some ⟨w1.heap.size,2,none⟩)) 67 rfl rfl (.inl ⟨rfl,fun w _=>exec_field _ rfl rfl (chF2 _ _)⟩) (hS2 _ _ rfl) ?_;go_frame
     refine Rg.Any.one (i:=13) (by kernel_rfl) (Rg.Any.runSkip none rfl rfl rfl (Rg.exec_store _ _ _ rfl _ rfl _ rfl (Rg.run_storeSl _ infoPermss (q2.tri.set1 _).c2 (q2.tri.set1 _).f2)) (hS2 _ _ rfl) ?_);go_frame;refine Rg.Any.done (by kernel_rfl) ?_ _;clear hS2;clear hS hI3_m;have hst:=q2.store (.slice a2 (O.length+1) c2) (.slice a3 (R.length+1) c3);have hkk:=(KX.out.setCell (p:=⟨w1.heap.size,1,none⟩) (Nat.le_refl _) (.slice a2 (O.length+1) c2)).setCell (p:=⟨w1.heap.size,2,none⟩) (Nat.le_refl _) (.slice a3 (R.length+1) c3);generalize (X3.setCell ⟨w1.heap.size,1,none⟩ (.slice a2 (O.length+1) c2)).setCell ⟨w1.heap.size,2,none⟩ (.slice a3 (R.length+1) c3)=w99 at *;have CH2:=ι (show ChR w1.heap.size w99 w1.heap.size (.int .i64 ((n:Nat):Int)) (.slice a2 (O.length+1) c2) (.slice a3 (R.length+1) c3) (.slice a2 (O.length+1) c2) (.slice a3 (R.length+1) c3) ((O++[l]).map Ma.ofN) ((R++[rs]).map (List.map Ma.ofN)) by rw [List.map_append,List.map_append]; exact hst)
     have K2:=ι hkk;have HP2:=ι (HPC.out.snoc HA2.out (fun p=>(HA3.out p).trans ((HL.out k HKL.out).orb p)) HRSL.out HRS.out);clear hst hkk q1 q2 q3 KX FK FJ PD;go_wp2
     go_roundw
     case rel=>exact ⟨k+1,_,_,O++[l],R++[rs],by go_num,HKL.out,CH2,K2,HP2⟩
     case measure=>simp [intOf]; have:=HKL.out; omega
  ·obtain rfl:k=n:=by omega
   have hkN:¬ (k:Int)<(k:Int):=by omega
   have TT:=ι (FT.out.below K1.out);go_upto_region 14 with (fail);refine Rg.wl ?_;refine Rg.lr 69 (Rg.exec_load _ _ rfl ⟨w1.heap.size,0,none⟩ rfl (run_loadC CH.out.tri)) ?_;go_frame;refine Rg.list_skip none rfl rfl (Rg.exec_store _ _ _ rfl _ rfl _ rfl (run_storeC _ _ _ _ _ _ _ TT.out)) ?_;go_frame;have hkt:=Rg.Kp.trans (Rg.Kp.trans (Rg.Kp.of_setCell (M:=fun z=>z=w.heap.size) (w:=wr) (a:=⟨w.heap.size,0,none⟩) (v:=.int .i64 ((k:Nat):Int)) rfl) (Rg.Kp.of_setCell (M:=fun z=>z=w.heap.size) (a:=⟨w.heap.size,1,none⟩) (v:=(Value.slice ova O.length ovc)) rfl) (fun _ _ e=>e)) (Rg.Kp.of_setCell (M:=fun z=>z=w.heap.size) (a:=⟨w.heap.size,2,none⟩) (v:=(Value.slice rva R.length rvc)) rfl) (fun _ _ e=>e);have hch:=CH.out.kp hkt (fun z e=>by rw [e]; exact hlo1);have htt:=TT.out.set (.int .i64 ((k:Nat):Int)) (Value.slice ova O.length ovc) (Value.slice rva R.length rvc)
   have hkf:=((((K.out.trans (K1.out.mono K.out.size)).setCell (p:=⟨w.heap.size,0,none⟩) (Nat.le_refl _) (.int .i64 ((k:Nat):Int))).setCell (p:=⟨w.heap.size,1,none⟩) (Nat.le_refl _) (Value.slice ova O.length ovc)).setCell (p:=⟨w.heap.size,2,none⟩) (Nat.le_refl _) (Value.slice rva R.length rvc));have hfin:=HPC.out.isChain HTR.out
   have hfr2:∀ (X:World) (c0 c1 c2 a b:Value),ChR w1.heap.size X w1.heap.size c0 c1 c2 a b (O.map Ma.ofN) (R.map (List.map Ma.ofN))→FRows2 (fun z=>w.heap.size≤z) X b (R.map (List.map Ma.ofN)):=fun _ _ _ _ _ _ h=>by
    obtain ⟨us,h1,h2⟩:=h.frR (by rw [List.length_map,HPC.out.lenR]; omega);exact ⟨us,h1.mono (fun z hz=>by omega),FElts2.mono h2 (fun z hz=>by omega)⟩
   go_wp2;exact bodyPost_ret (results_cellC rfl _ rfl htt) rfl ⟨_,_,rfl,O,FRows.mono (hch.frO (by rw [List.length_map,HPC.out.lenO]; omega)) (fun z hz=>by omega),R,hfr2 _ _ _ _ _ _ hch,hfin,hkf⟩
end Go.Proofs.YthehbckogieimaaGreat

namespace Go.Proofs.YthehbckogieimaaGreat
open Go.RowKit
open Go.Proofs
open Go.Proofs.Ob
open Go.Proofs.Cm (Lv Twr trOf)
attribute [local irreducible] Go.Calls
def ChIs (w:World) (cv:Value) (n:Nat) (gs:List (List Nat)):Prop:=∃ ov rv O R,cv=.agg #[.int .i64 ((n:Nat):Int),ov,rv]∧Rg.Rows w ov (O.map Ma.ofN)∧Rows2 w rv (R.map (List.map Ma.ofN))∧Cm.IsChain n (Cm.Gr n (·∈gs)) O R
def zeroC:Value:=.agg #[.int .i64 0,.slice none 0 0,.slice none 0 0]
def ChAns (w:World) (d:Int) (ll:List (List Int)) (cv:Value) (c:Int):Prop:=(c≠0∧cv=zeroC)∨(c=0∧∃ n gs,d=((n:Nat):Int)∧ll=gs.map Ma.ofN∧1≤n∧n≤64∧ChIs w cv n gs)
theorem ChIs.below {w w':World} {cv:Value} {n:Nat} {gs:List (List Nat)} (h:ChIs w cv n gs) (hb:Below w.heap.size w w'):ChIs w' cv n gs:=by
 obtain ⟨ov,rv,O,R,h1,h2,h3,h4⟩:=h;exact ⟨ov,rv,O,R,h1,h2.below hb,h3.below hb,h4⟩
theorem ChAns.below {w w':World} {d:Int} {ll:List (List Int)} {cv:Value} {c:Int} (h:ChAns w d ll cv c) (hb:Below w.heap.size w w'):ChAns w' d ll cv c:=by
 rcases h with h | ⟨h0,n,gs,h1,h2,h3,h4,h5⟩
 ·exact .inl h
 ·exact .inr ⟨h0,n,gs,h1,h2,h3,h4,h5.below hb⟩
theorem build_b {n:Nat} (hn1:1≤n) (hn2:n≤64) {w:World} {v:Value} {gs:List (List Nat)} (hv:Rg.Rows w v (gs.map Ma.ofN)) (hg:∀ s∈gs,Cm.Gd n s) (hgl:gs.length≤1000000) :
  Calls Tryz.prog 117 #[.int .i64 ((n:Nat):Int),v] w fun e w'=>∃ (tb L:Nat) (F':Nat→Prop) (T':Twr) (V':Nat→LV),e=.returned (.pointer (some ⟨tb,0,none⟩))∧TowAt F' L n w' T' V'∧CF F' w' tb 0 (.int .i64 ((n:Nat):Int))∧CF F' w' tb 1 (.slice (some ⟨L,0,none⟩) n n)∧Cm.Built n (·∈gs) T'∧Below w.heap.size w w':=by
 refine (build_any hn1 hn2 (GS.of_rows hv) hg hgl).mono ?_;rintro e w' ⟨tb,L,F',T',V',rfl,hk,h1,h2,h3,h4⟩;exact ⟨tb,L,F',T',V',rfl,h1,h2,h3,h4,hk.kf.below (Nat.le_refl _) (fun _ h=>h)⟩
theorem Rows2.shape {w:World} {v:Value} {lll:List (List (List Int))} (h:Rows2 w v lll):∃ a c,v=.slice a lll.length c:=by
 obtain ⟨us,⟨a,cap,e,_⟩,h2,_⟩:=h;exact ⟨a,cap,by rw [e,h2]⟩
end Go.Proofs.YthehbckogieimaaGreat

namespace Go.Proofs.YthehbckogieimaaGreat
open Go.RowKit
open Go.Proofs
open Go.Proofs.Ob
open Go.Proofs.Cm (Lv Twr trOf)
attribute [local irreducible] Go.Calls Go.wpList
def mkchk (d:Int) (ll:List (List Int)):Int:=if 1≤d∧d≤64 then (if ll.length≤4096 then Ma.gck d ll else 4) else 2
theorem mk_ok {d:Int} {ll:List (List Int)} (h1:1≤d) (h2:d≤64) (h:Ma.gck d ll=0):∃ (n:Nat) (gs:List (List Nat)),d=n∧ll=gs.map Ma.ofN∧(∀ s∈gs,Cm.Gd n s)∧1≤n∧n≤64∧gs.length=ll.length:=by
 have hz:=Ma.gck_zero h;obtain ⟨D,rfl⟩:∃ D:Nat,d=D:=⟨d.toNat,by omega⟩
 have hex:∀ l∈ll,∃ p,l=Ma.ofN p∧Ma.okN p∧p.length=D:=fun l hl=>by
  obtain ⟨a,b⟩:=hz l hl;obtain ⟨_,_,c⟩:=Ma.pchk_zero a;obtain ⟨p,rfl,hp⟩:=Ma.okL_ofN c;rw [Ma.len_ofN] at b;exact ⟨p,rfl,hp,by omega⟩
 clear h hz
 have:∃ gs:List (List Nat),ll=gs.map Ma.ofN∧GG D gs:=by
  induction ll with
  | nil=>exact ⟨[],rfl,fun s hs=>by simp at hs⟩
  | cons l r ih =>
   obtain ⟨gs,rfl,hg⟩:=ih (fun x hx=>hex x (List.mem_cons_of_mem _ hx));obtain ⟨p,rfl,h3,h4⟩:=hex l (List.mem_cons_self ..)
   exact ⟨p :: gs,rfl,fun s hs=>by
    rcases List.mem_cons.1 hs with rfl | hs
    ·exact ⟨h3,h4⟩
    ·exact hg s hs⟩
 obtain ⟨gs,rfl,hg⟩:=this;exact ⟨D,gs,rfl,rfl,fun s hs=>hg s hs,by omega,by omega,by simp⟩
theorem fin_zero {w:World} {X:World} {td:Nat} {u1 u2 u3:Value} (h:Tri X td u1 u2 u3) (hk:Below w.heap.size w X) (hlo:w.heap.size≤td):Tri (((X.setCell ⟨td,0,none⟩ (.int .i64 0)).setCell ⟨td,1,none⟩ (.slice none 0 0)).setCell ⟨td,2,none⟩ (.slice none 0 0)) td (.int .i64 0) (.slice none 0 0) (.slice none 0 0)∧Below w.heap.size w (((X.setCell ⟨td,0,none⟩ (.int .i64 0)).setCell ⟨td,1,none⟩ (.slice none 0 0)).setCell ⟨td,2,none⟩ (.slice none 0 0)) :=
 ⟨h.set _ _ _,((hk.setCell (p:=⟨td,0,none⟩) hlo (.int .i64 0)).setCell (p:=⟨td,1,none⟩) hlo (.slice none 0 0)).setCell (p:=⟨td,2,none⟩) hlo (.slice none 0 0)⟩
end Go.Proofs.YthehbckogieimaaGreat

namespace Go.Proofs.YthehbckogieimaaGreat
open Go.RowKit
open Go.Proofs
attribute [local irreducible] Go.Calls
def lg (ll:List (List Int)):Bool:=(ll.take 21).any (fun l=>decide (70<l.length)) || decide (20<ll.length)
theorem lg_small {ll:List (List Int)} (h:lg ll=false):ll.length≤20∧∀ l∈ll,l.length≤70:=by
 unfold lg at h;rw [Bool.or_eq_false_iff] at h
 have h1:ll.length≤20:=by have:=of_decide_eq_false h.2; omega
 refine ⟨h1,fun l hl=>?_⟩;have h2:=h.1;rw [List.take_of_length_le (by omega),List.any_eq_false] at h2;have h3:=h2 l hl;simp at h3;exact h3
theorem lg_hit {ll:List (List Int)} {k:Nat} (hk:k<ll.length) (h21:k<21) (h:70<ll[k].length):lg ll=true:=by
 unfold lg;rw [Bool.or_eq_true];refine .inl (List.any_eq_true.2 ⟨ll[k],?_,by simpa using h⟩);rw [List.mem_take_iff_getElem];exact ⟨k,by omega,rfl⟩
theorem lg_end {ll:List (List Int)} {k:Nat} (h:∀ i (hi:i<ll.length),i<k→ll[i].length≤70) (hk:k=ll.length∨k=21):lg ll=decide (20<ll.length):=by
 unfold lg
 have:(ll.take 21).any (fun l=>decide (70<l.length))=false:=by
  rw [List.any_eq_false];intro l hl;rw [List.mem_take_iff_getElem] at hl;obtain ⟨i,hi,rfl⟩:=hl;have:=h i (by omega) (by omega);simp; omega
 rw [this,Bool.false_or]
theorem LargeGroup_any {B:Nat} (gv:Value) (d:Int) (ll:List (List Int)) (w:World) (h:Rg.RowsB B w gv ll) :
  Calls Tryz.prog 80 #[.agg #[.int .i64 d,gv]] w fun e w'=>e=.returned (.bool (lg ll))∧Below w.heap.size w w':=by
 obtain ⟨ad,cap,rfl,hc,hlB,_,hcell⟩:=h.shape;have hba:=ι (show Below w.heap.size w (w.alloc (.cells #[.int .i64 d,.slice ad ll.length cap] 24)) from (Below.refl _ _).alloc (Nat.le_refl _) _)
 have hg1:(w.alloc (.cells #[.int .i64 d,.slice ad ll.length cap] 24)).cell? ⟨w.heap.size,1,none⟩=some (.slice ad ll.length cap):=by rw [Rg.cellNew]; rfl
 have Hcell:=ι hcell;clear hcell h
 go_enter Tryz.func80,Tryz.ntmps80
 go_wp2;have Hg1:=ι hg1;clear hg1;generalize hW:w.alloc (.cells #[.int .i64 d,.slice ad ll.length cap] 24)=W at *;clear hW
 go_loopw [3] (fun v wr=>∃ k:Nat,v=.int .i64 k∧k≤21∧k≤ll.length∧wr=W∧Hid (∀ i (hi:i<ll.length),i<k→ll[i].length≤70)) (fun v _=>21 - (intOf v).toNat)
 case atStart=>exact ⟨0,rfl,by omega,by omega,rfl,fun i hi h0=>by omega⟩
 case round =>
  obtain ⟨k,rfl,hk21,hkl,rfl,Hk⟩:=hrel;have hg1:=Hg1.out
  by_cases hlt:k<ll.length
  ·by_cases h21:k<21
   ·obtain ⟨b,o,rfl,hb,hr⟩:=Hcell.out (by omega)
    obtain ⟨u,hu,hul⟩:=hr k hlt;obtain ⟨ua,uc,rfl,huc,huB,hx1,hx2⟩:=hul.shape;have hu':=(Rg.bcell hba.out).1 b (o+k) hb;have hu2:=hu'.trans hu;clear hu hu' hr hul hx1 hx2;generalize hn:ll[k].length=n at *;have Hn:=ι hn;clear hn
    by_cases hbig:70<n
    ·go_wp2
     go_ret;exact ⟨by rw [lg_hit hlt h21 (by rw [Hn.out]; exact hbig)]; rfl,hba.out⟩
    ·go_wp2
     go_roundw
     case rel =>
      refine ⟨k+1,by go_num,by omega,by omega,by first | rfl | trivial,ι fun i hi h0=>?_⟩
      by_cases e:i=k
      ·subst e; rw [Hn.out]; omega
      ·exact Hk.out i hi (by omega)
     case measure=>simp [intOf]; omega
   ·obtain rfl:k=21:=by omega
    have hE:=ι (lg_end Hk.out (.inr rfl));clear Hk;go_wp2;go_ret;exact ⟨by rw [hE.out]; simp; omega,hba.out⟩
  ·obtain rfl:k=ll.length:=by omega
   have hE:=ι (lg_end Hk.out (.inl rfl));clear Hk;go_wp2;go_ret;exact ⟨by rw [hE.out]; simp; omega,hba.out⟩
end Go.Proofs.YthehbckogieimaaGreat

namespace Go.Proofs.YthehbckogieimaaGreat
open Go.RowKit
open Go.Proofs
open Go.Proofs.Ob
attribute [local irreducible] Go.Calls
theorem SameLists_q (v1 v2:Value) (l1 l2:List (List Int)) (w:World) (h1:Rg.Rows w v1 l1) (h2:Rg.Rows w v2 l2) :
  Calls Tryz.prog 22 #[v1,v2] w fun e w'=>e=.returned (.bool (decide (l1=l2)))∧∃ k,w'=w.drewN k:=by
 obtain ⟨a1,c1,rfl,n1,m1,_,k1⟩:=h1.shape;obtain ⟨a2,c2,rfl,n2,m2,_,k2⟩:=h2.shape;clear h1 h2;have K1:=ι k1;have K2:=ι k2;clear k1 k2;generalize hD:decide (l1=l2)=D;have HD:=ι hD;clear hD
 by_cases hl:l1.length=l2.length
 ·have hb:((l1.length:Int) != (l2.length:Int))=false:=by rw [hl]; simp
  have Hl:=ι hl;clear hl
  go_enter Tryz.func22,Tryz.ntmps22
  go_wp2;clear hb
  go_loopw [5] (fun v wr=>∃ i:Nat,v=.int .i64 i∧i≤l1.length∧Hid (∃ k,wr=w.drewN k)∧Hid (l1.take i=l2.take i)) (fun v _=>l1.length - (intOf v).toNat)
  case atStart=>exact ⟨0,rfl,by omega,⟨0,rfl⟩,by show _=_; simp⟩
  case round =>
   obtain ⟨i,rfl,hi,hw,hs⟩:=hrel
   by_cases hlt:i<l1.length
   ·have hi2:i<l2.length:=by have:=Hl.out; omega
    obtain ⟨b1,o1,rfl,hb1,d1⟩:=K1.out (by omega);obtain ⟨b2,o2,rfl,hb2,d2⟩:=K2.out (by omega);obtain ⟨u1,y1,hu1⟩:=d1 i hlt;obtain ⟨u2,y2,hu2⟩:=d2 i hi2
    have x1:wr.cell? ⟨b1,o1+i,none⟩=some u1:=by obtain ⟨k,e⟩:=hw.out; rw [e]; exact y1
    have x2:wr.cell? ⟨b2,o2+i,none⟩=some u2:=by obtain ⟨k,e⟩:=hw.out; rw [e]; exact y2
    have hlt2:(i:Int)<(l2.length:Int):=by omega
    generalize hx:l1[i]=x at hu1;generalize hy:l2[i]=y at hu2;have Hx:=ι hx;have Hy:=ι hy;clear d1 d2 hx hy y1 y2;have hq:∀ n,_:=fun n=>Same_q u1 u2 x y (wr.drewN n) (by obtain ⟨k,e⟩:=hw.out; rw [e]; exact hu1) (by obtain ⟨k,e⟩:=hw.out; rw [e]; exact hu2)
    by_cases he:x=y
    ·have hdd:decide (x=y)=true:=decide_eq_true he
     have He:=ι he;rw [hdd] at hq;have Hq:=ι hq;clear he hdd hq;go_wp2
     go_quiet ((go_at_call 33; exact Calls.quiet_of (Hq.out _)))
     go_wp2
     go_roundw
     case rel=>exact ⟨i+1,by go_num,by omega,by obtain ⟨k,e⟩:=hw.out; rw [e]; exact ⟨_,World.drewN_drewN _ _ _⟩,by show _=_; rw [List.take_succ_eq_append_getElem hlt,List.take_succ_eq_append_getElem hi2,hs.out,Hx.out,Hy.out,He.out]⟩
     case measure=>simp [intOf]; omega
    ·have hdd:decide (x=y)=false:=decide_eq_false he
     have He:=ι he;rw [hdd] at hq;have Hq:=ι hq;clear he hdd hq;go_wp2
     go_quiet ((go_at_call 33; exact Calls.quiet_of (Hq.out _)))
     go_wp2;go_ret;exact ⟨Rg.ret_bool (by rw [← HD.out]; symm; rw [decide_eq_false_iff_not]; intro hc; subst hc; exact He.out (Hx.out.symm.trans Hy.out)),by obtain ⟨k,e⟩:=hw.out; rw [e]; exact ⟨_,World.drewN_drewN _ _ _⟩⟩
   ·go_wp2
    go_ret;refine ⟨Rg.ret_bool ?_,hw.out⟩;rw [← HD.out]; symm;rw [decide_eq_true_eq];have h1:=hs.out
    rwa [List.take_of_length_le (by omega),List.take_of_length_le (by have:=Hl.out; omega)] at h1
 ·have hb:((l1.length:Int) != (l2.length:Int))=true:=by rw [bne_iff_ne]; omega
  have Hl:=ι hl;clear hl
  go_enter Tryz.func22,Tryz.ntmps22
  go_wp2;go_ret;exact ⟨Rg.ret_bool (by rw [← HD.out]; symm; rw [decide_eq_false_iff_not]; intro hc; subst hc; exact Hl.out rfl),0,rfl⟩
theorem SameLists_b {v1 v2:Value} {l1 l2:List (List Int)} {w:World} {b:Bool} (h1:Rg.Rows w v1 l1) (h2:Rg.Rows w v2 l2) (hd:Hid (decide (l1=l2)=b)) :
  Calls Tryz.prog 22 #[v1,v2] w fun e w'=>e=.returned (.bool b)∧Below w.heap.size w w':=by
 refine (SameLists_q v1 v2 l1 l2 w h1 h2).mono ?_;rintro e w' ⟨rfl,k,rfl⟩;exact ⟨by rw [hd.out],Rg.drewN (Below.refl _ _) k⟩
end Go.Proofs.YthehbckogieimaaGreat

namespace Go.Proofs.YthehbckogieimaaGreat
open Go.RowKit
open Go.Proofs
open Go.Proofs.Ob
open Go.Proofs.Cm (Lv Twr trOf)
attribute [local irreducible] Go.Calls
theorem Rows2.nil (w:World) (a:Option Addr) (c:Nat) (hc:c≤maxLen):Rows2 w (.slice a 0 c) []:=⟨[],Rg.Vals.nil w a c hc,rfl,fun i h=>by simp at h⟩
theorem Rows2.at' {w:World} {a:Option Addr} {m c:Nat} {lll:List (List (List Int))} (h:Rows2 w (.slice a m c) lll) {k:Nat} (hk:k<lll.length):∃ b o,a=some ⟨b,o,none⟩∧b<w.heap.size∧∃ u,w.cell? ⟨b,o+k,none⟩=some u∧Rg.Rows w u lll[k]:=by
 obtain ⟨us,⟨a',cap,e,_,_,_,h5⟩,h2,h3⟩:=h;obtain ⟨b,o,e1,e2,e3⟩:=h5 (by omega);simp at e;obtain ⟨rfl,_,_⟩:=e;exact ⟨b,o,e1,e2,us[k],e3 k (by omega),h3 k (by omega) hk⟩
end Go.Proofs.YthehbckogieimaaGreat

namespace Go.Proofs.Cm
open Go.Proofs
def idT (n:Nat) (tr:Tr):Tr:=fun i p=>if p=i then some (Ma.oneN n) else tr i p
def setT (tr:Tr) (i p:Nat) (y:List Nat):Tr:=fun j q=>if j=i∧q=p then some y else tr j q
structure TabOk (n:Nat) (gs:List Nat→Prop) (tr:Tr):Prop where
 rp:Rp n 0 (idT n tr)
 diag:∀ i,tr i i=none
 lt:∀ i p u,tr i p=some u→i<n∧p<n
 mem:∀ i p u,tr i p=some u→Gr n gs u
theorem idT_ne {n:Nat} {tr:Tr} {i p:Nat} (h:p≠i):idT n tr i p=tr i p:=if_neg h
theorem idT_self {n:Nat} {tr:Tr} {i:Nat}:idT n tr i i=some (Ma.oneN n):=if_pos rfl
theorem TabOk.nil0 {n:Nat} {gs:List Nat→Prop}:TabOk n gs (fun _ _=>none):=by
 have h:∀ i p u,idT n (fun _ _=>none) i p=some u→p=i∧u=Ma.oneN n:=fun i p u e=>by
  unfold idT at e
  by_cases h:p=i
  ·rw [if_pos h] at e; injection e with e; exact ⟨h,e.symm⟩
  ·rw [if_neg h] at e; cases e
 refine ⟨⟨fun i p u _ _ e=>?_,fun i p u _ hi e=>?_,fun i p u _ hi e=>?_,fun i _ _=>idT_self⟩,fun _=>rfl,fun i p u e=>(by cases e),fun i p u e=>(by cases e)⟩
 ·obtain ⟨_,rfl⟩:=h i p u e; exact gd_one n
 ·obtain ⟨_,rfl⟩:=h i p u e; exact Fx.one (by omega)
 ·obtain ⟨rfl,rfl⟩:=h i p u e; exact ap_one hi
theorem TabOk.put {n:Nat} {gs:List Nat→Prop} {tr:Tr} (h:TabOk n gs tr) {i:Nat} {y:List Nat} (hi:i<n) (gy:Gd n y) (fy:Fx i y) (hy:Gr n gs y) (hn:idT n tr i (ap y i)=none) :
  TabOk n gs (setT tr i (ap y i) y)∧∀ j q u,idT n tr j q=some u→idT n (setT tr i (ap y i) y) j q=some u:=by
 have hne:ap y i≠i:=fun e=>by rw [e,idT_self] at hn; cases hn
 have ht:tr i (ap y i)=none:=by rwa [idT_ne hne] at hn
 have hs:∀ j q u,idT n (setT tr i (ap y i) y) j q=some u→idT n tr j q=some u∨(j=i∧q=ap y i∧u=y):=fun j q u e=>by
  by_cases hd:q=j
  ·subst hd; rw [idT_self] at e; left; rw [idT_self]; exact e
  ·rw [idT_ne hd] at e
   unfold setT at e
   by_cases hc:j=i∧q=ap y i
   ·rw [if_pos hc] at e; injection e with e; exact .inr ⟨hc.1,hc.2,e.symm⟩
   ·rw [if_neg hc] at e; left; rw [idT_ne hd]; exact e
 refine ⟨⟨⟨fun j q u a b e=>?_,fun j q u a b e=>?_,fun j q u a b e=>?_,fun j _ _=>idT_self⟩,fun j=>?_,fun j q u e=>?_,fun j q u e=>?_⟩,fun j q u e=>?_⟩
 ·rcases hs j q u e with e | ⟨_,_,rfl⟩
  ·exact h.rp.gd j q u a b e
  ·exact gy
 ·rcases hs j q u e with e | ⟨rfl,_,rfl⟩
  ·exact h.rp.fx j q u a b e
  ·exact fy
 ·rcases hs j q u e with e | ⟨rfl,rfl,rfl⟩
  ·exact h.rp.at_ j q u a b e
  ·rfl
 ·unfold setT
  rw [if_neg (fun e=>hne (by omega))]; exact h.diag j
 ·unfold setT at e
  by_cases hc:j=i∧q=ap y i
  ·exact ⟨by omega,by rw [hc.2]; exact ap_lt gy hi⟩
  ·rw [if_neg hc] at e; exact h.lt j q u e
 ·unfold setT at e
  by_cases hc:j=i∧q=ap y i
  ·rw [if_pos hc] at e; injection e with e; rw [← e]; exact hy
  ·rw [if_neg hc] at e; exact h.mem j q u e
 ·by_cases hd:q=j
  ·subst hd; rw [idT_self] at e ⊢; exact e
  ·rw [idT_ne hd] at e ⊢
   unfold setT
   by_cases hc:j=i∧q=ap y i
   ·obtain ⟨rfl,rfl⟩:=hc; rw [ht] at e; cases e
   ·rw [if_neg hc]; exact e
end Go.Proofs.Cm

namespace Go.Proofs.YthehbckogieimaaGreat
open Go.RowKit
open Go.Proofs
open Go.Proofs.Cm (Tr)
structure TabAt (F:Nat→Prop) (tb tf n:Nat) (w:World) (tr:Tr) (Rb:Nat→Nat) (V:Nat→Nat→Value):Prop where
 Flt:∀ k,F k→k<w.heap.size
 out:∀ i,i<n→CF F w tb (tf+i) (.slice (some ⟨Rb i,0,none⟩) n n)
 nF:∀ i,i<n→¬ F (Rb i)
 inj:∀ i j,i<n→j<n→Rb i=Rb j→i=j
 row:∀ i,i<n→w.rowIs (Rb i) 51 n (V i)
 some_:∀ i p u,i<n→p<n→tr i p=some u→FP F w (V i p) u
 none_:∀ i p,i<n→p<n→tr i p=none→V i p=.slice none 0 0
theorem TabAt.lt {F:Nat→Prop} {tb tf n:Nat} {w:World} {tr:Tr} {Rb:Nat→Nat} {V:Nat→Nat→Value} (h:TabAt F tb tf n w tr Rb V) {i:Nat} (hi:i<n):Rb i<w.heap.size:=rowIs_lt (h.row i hi)
theorem TabAt.up {F:Nat→Prop} {tb tf n:Nat} {w w':World} {tr:Tr} {Rb:Nat→Nat} {V:Nat→Nat→Value} (h:TabAt F tb tf n w tr Rb V) (hb:Below w.heap.size w w'):TabAt (Fup F w w') tb tf n w' tr Rb V:=by
 have hk:Rg.Kp (fun _=>False) w w':=Rg.Kp.of_below hb
 refine ⟨fun k hk=>by rcases hk with hk | hk; exact Nat.lt_of_lt_of_le (h.Flt k hk) hb.size; exact hk.2,fun i hi=>(h.out i hi).up hb,fun i hi e=>?_,h.inj,fun i hi=>rowIs_kp (h.row i hi) hk id,fun i p u hi hp e=>(h.some_ i p u hi hp e).up hb,h.none_⟩
 have:=h.lt hi
 rcases e with e | e
 ·exact h.nF i hi e
 ·omega
theorem TabAt.below {F:Nat→Prop} {tb tf n:Nat} {w w':World} {tr:Tr} {Rb:Nat→Nat} {V:Nat→Nat→Value} (h:TabAt F tb tf n w tr Rb V) (hb:Below w.heap.size w w'):TabAt F tb tf n w' tr Rb V:=by
 have hk:Rg.Kp (fun _=>False) w w':=Rg.Kp.of_below hb;exact ⟨fun k hf=>Nat.lt_of_lt_of_le (h.Flt k hf) hb.size,fun i hi=>(h.out i hi).below hb,h.nF,h.inj,fun i hi=>rowIs_kp (h.row i hi) hk id,fun i p u hi hp e=>(h.some_ i p u hi hp e).below hb,h.none_⟩
theorem TabAt.cell {F:Nat→Prop} {tb tf n:Nat} {w:World} {tr:Tr} {Rb:Nat→Nat} {V:Nat→Nat→Value} (h:TabAt F tb tf n w tr Rb V) {i p:Nat} (hi:i<n) (hp:p<n):w.cell? ⟨Rb i,p,none⟩=some (V i p):=(h.row i hi).cell hp
theorem TabAt.put {F:Nat→Prop} {tb tf n:Nat} {w:World} {tr:Tr} {Rb:Nat→Nat} {V:Nat→Nat→Value} (h:TabAt F tb tf n w tr Rb V) {i p:Nat} (hi:i<n) {y:List Nat} {yv:Value} (hy:FP F w yv y) :
  TabAt F tb tf n (w.setCell ⟨Rb i,p,none⟩ yv) (Cm.setT tr i p y) Rb (fun j q=>if j=i∧q=p then yv else V j q)∧KF F w (w.setCell ⟨Rb i,p,none⟩ yv):=by
 have hk:Rg.Kp (fun z=>z=Rb i) w (w.setCell ⟨Rb i,p,none⟩ yv):=Rg.Kp.of_setCell rfl;have hF:∀ z,F z→¬ z=Rb i:=fun z hz e=>h.nF i hi (e▸hz);have hkf:KF F w (w.setCell ⟨Rb i,p,none⟩ yv):=Rg.Kp.weak hk fun z e hz=>hF z hz e;refine ⟨⟨fun k hf=>Nat.lt_of_lt_of_le (h.Flt k hf) hk.size,fun j hj=>(h.out j hj).kf hkf,h.nF,h.inj,fun j hj=>?_,fun j q u hj hq e=>?_,fun j q hj hq e=>?_⟩,hkf⟩
 ·by_cases e:j=i
  ·subst e
   refine ((h.row j hj).set p yv).congr fun q hq=>?_
   by_cases e2:q=p
   ·rw [if_pos e2,if_pos ⟨rfl,e2⟩]
   ·rw [if_neg e2,if_neg (fun e3=>e2 e3.2)]
  ·refine (rowIs_kp (h.row j hj) hk (fun e2=>e (h.inj j i hj hi e2))).congr fun q hq=>?_
   rw [if_neg (fun e3=>e e3.1)]
 ·have e:(if j=i∧q=p then some y else tr j q)=some u:=e
  show FP F _ (if j=i∧q=p then yv else V j q) u
  by_cases hc:j=i∧q=p
  ·rw [if_pos hc] at e ⊢; injection e with e; subst e; exact hy.kf hkf
  ·rw [if_neg hc] at e ⊢; exact (h.some_ j q u hj hq e).kf hkf
 ·have e:(if j=i∧q=p then some y else tr j q)=none:=e
  show (if j=i∧q=p then yv else V j q)=_
  by_cases hc:j=i∧q=p
  ·rw [if_pos hc] at e; cases e
  ·rw [if_neg hc] at e ⊢; exact h.none_ j q hj hq e
def RbM (n:Nat) (Rb:Nat→Nat) (k:Nat):Prop:=∃ i,i<n∧k=Rb i
structure KI (F0:Nat→Prop) (w:World) (F:Nat→Prop) (W:World) (M:Nat→Prop):Prop where
 kg:KG F0 w F W
 kp:Rg.Kp M w W
 new:∀ k,F k→F0 k∨w.heap.size≤k
theorem KI.refl {F:Nat→Prop} {w:World} {M:Nat→Prop} (h:∀ k,F k→k<w.heap.size):KI F w F w M:=⟨KG.refl h,Rg.Kp.refl _ _,fun _ h=>.inl h⟩
theorem KI.up {F0 F:Nat→Prop} {w W W':World} {M:Nat→Prop} (h:KI F0 w F W M) (hb:Below W.heap.size W W'):KI F0 w (Fup F W W') W' M :=
 ⟨h.kg.up hb,Rg.Kp.trans (M:=M) h.kp (Rg.Kp.of_below (M:=M) hb) (fun _ _ e=>e),fun k hk=>by
  rcases hk with hk | hk
  ·exact h.new k hk
  ·exact .inr (Nat.le_trans h.kp.size hk.1)⟩
theorem KI.put {F0 F:Nat→Prop} {w W W':World} {M:Nat→Prop} (h:KI F0 w F W M) (hk:KF F W W') (hm:Rg.Kp M W W'):KI F0 w F W' M :=
 ⟨h.kg.kf' hk,Rg.Kp.trans (M:=M) h.kp hm (fun _ _ e=>e),h.new⟩
theorem TabAt.kp {M:Nat→Prop} {F:Nat→Prop} {tb tf n:Nat} {w w':World} {tr:Tr} {Rb:Nat→Nat} {V:Nat→Nat→Value} (h:TabAt F tb tf n w tr Rb V) (hk:Rg.Kp M w w') (hF:∀ k,F k→¬ M k) (hR:∀ i,i<n→¬ M (Rb i)):TabAt F tb tf n w' tr Rb V:=by
 have hkf:KF F w w':=Rg.Kp.weak hk fun z e hz=>hF z hz e;exact ⟨fun k hf=>Nat.lt_of_lt_of_le (h.Flt k hf) hk.size,fun i hi=>(h.out i hi).kf hkf,h.nF,h.inj,fun i hi=>rowIs_kp (h.row i hi) hk (hR i hi),fun i p u hi hp e=>(h.some_ i p u hi hp e).kf hkf,h.none_⟩
end Go.Proofs.YthehbckogieimaaGreat

namespace Go.Proofs.YthehbckogieimaaGreat
open Go.RowKit
open Go.Proofs
open Go.Proofs.Cm (Tr)
attribute [local irreducible] Go.Calls
theorem Wfcl0 (args:Array Value) (w:World):(callFunc 146 args).run Tryz.prog w=.ok (.enter 146 args) w:=by kernel_rfl
theorem Wfcl1 (args:Array Value) (w:World):(callFunc 72 args).run Tryz.prog w=.ok (.enter 72 args) w:=by kernel_rfl
theorem slTable:Rg.SlT Tryz.prog 213 22 (.slice none 0 0) 24:=⟨Tryz.underlying213,infoPermsV,rfl,by decide⟩
theorem kMul_f {F:Nat→Prop} {n:Nat} {v1 v2:Value} {a b:List Nat} {w:World} (h1:FP F w v1 a) (h2:FP F w v2 b) (ga:Cm.Gd n a) (gb:Cm.Gd n b) (hn2:n≤64) :
  Calls Tryz.prog 72 #[v1,v2] w fun e w'=>∃ v,e=.returned v∧FP (Fup F w w') w' v (Ma.mulN a b)∧Below w.heap.size w w':=by
 have e1:=ga.2;have e2:=gb.2;refine (kitMul_any v1 v2 a b w h1.np h2.np (fun x hx=>by have:=ga.1.1 x hx; omega) (by omega)).mono ?_;rintro e w' ⟨v,rfl,hv,hb⟩;exact ⟨v,rfl,FP.new hv,hb⟩
theorem kInv_f {F:Nat→Prop} {n:Nat} {v1:Value} {a:List Nat} {w:World} (h1:FP F w v1 a) (ga:Cm.Gd n a) (hn2:n≤64) :
  Calls Tryz.prog 146 #[v1] w fun e w'=>∃ v,e=.returned v∧FP (Fup F w w') w' v (Ma.invN a)∧Below w.heap.size w w':=by
 have e1:=ga.2;refine (kitInv_any v1 a w h1.np ga.1 (by omega)).mono ?_;rintro e w' ⟨v,rfl,hv,hb⟩;exact ⟨v,rfl,FP.new hv,hb⟩
def insT (n:Nat) (tr:Tr) (A:Nat × List Nat):Tr:=if A.1<n then Cm.setT tr A.1 (Cm.ap A.2 A.1) A.2 else tr
def InsPost (F0:Nat→Prop) (w:World) (tb tf n:Nat) (tr:Tr) (Rb:Nat→Nat) (A:Nat × List Nat) (e:Ending) (w':World):Prop:=∃ F' V',e=.returned (.bool (decide (A.1<n)))∧KI F0 w F' w' (RbM n Rb)∧TabAt F' tb tf n w' (insT n tr A) Rb V'
theorem InsPost.intro {F0:Nat→Prop} {w:World} {tb tf n:Nat} {tr:Tr} {Rb:Nat→Nat} {A:Nat × List Nat} {w':World} (F':Nat→Prop) (V':Nat→Nat→Value) (b:Bool) (h1:KI F0 w F' w' (RbM n Rb)) (h2:TabAt F' tb tf n w' (insT n tr A) Rb V') (hb:decide (A.1<n)=b):InsPost F0 w tb tf n tr Rb A (.returned (.bool b)) w':=⟨F',V',by rw [hb],h1,h2⟩
theorem insert_any {n:Nat} (hn1:1≤n) (hn2:n≤64) {F0:Nat→Prop} {tb tf tc:Nat} {w:World} {tr:Tr} {Rb:Nat→Nat} {V:Nat→Nat→Value} (hT:TabAt F0 tb tf n w tr Rb V) (hr:Cm.Rp n 0 (Cm.idT n tr)) {xv:Value} {x:List Nat} (hx:FP F0 w xv x) (gx:Cm.Gd n x) :
  Calls Tryz.prog 198 #[.slice (some ⟨tb,tf,none⟩) n tc,xv] w (InsPost F0 w tb tf n tr Rb (Cm.sfP n (Cm.idT n tr) n x)):=by
 obtain ⟨xb0,xo0,xc0,rfl⟩:=hx.shape' gx hn1;have K:=ι (KI.refl (M:=RbM n Rb) hT.Flt);have HT:=ι hT;have X:=ι hx;have HR:=ι hr;obtain ⟨A,hA⟩:∃ A,Hid (A=Cm.sfP n (Cm.idT n tr) n x):=⟨_,ι rfl⟩;rw [← hA.out];have HS0:=ι (show Cm.sfP n (Cm.idT n tr) (n - 0) x=A from hA.out.symm);have GX:=ι gx;clear hT hx hr gx
 go_enter Tryz.func198,Tryz.ntmps198
 go_wp2
 go_loopw [1,5] (fun yv iv wr=>∃ (i:Nat) (y:List Nat) (F1:Nat→Prop),i≤n∧iv=.int .i64 i∧Hid (FP F1 wr yv y)∧Hid (TabAt F1 tb tf n wr tr Rb V)∧Hid (KI F0 w F1 wr (RbM n Rb))∧Hid (Cm.Gd n y)∧Hid (Cm.Fx i y)∧Hid (Cm.sfP n (Cm.idT n tr) (n - i) y=A)) (fun _ iv _=>n - (intOf iv).toNat)
 case atStart=>exact ⟨0,x,F0,Nat.zero_le _,rfl,X,HT,K,GX,ι (fun j h=>absurd h (Nat.not_lt_zero _)),HS0⟩
 case round =>
  clear X HT K HS0 GX;obtain ⟨i,y,F,hi2,rfl,X,HT,K,GY,FY,HS⟩:=hrel
  by_cases hin:i<n
  ·have hiN:(i:Int)<(n:Int):=by omega
   obtain ⟨xb,xo,xc,rfl⟩:=X.out.shape' GY.out hn1;have hqn:=Cm.ap_lt GY.out hin;obtain ⟨q,hq⟩:∃ q:Nat,Hid (q=Cm.ap y i):=⟨_,ι rfl⟩;rw [← hq.out] at hqn;have CX:=ι (show CF F wr xb (xo+i) (.int .i64 ((q:Nat):Int)) by rw [hq.out]; exact X.out.ap GY.out hin);have HIN:=ι hin;have CO:=ι (HT.out.out i hin);have CE:=ι (CL.mk (HT.out.cell hin hqn) (HT.out.lt hin))
   have e1:n - i=(n - i - 1)+1:=by omega
   by_cases hqi:q=i
   ·have hqN:(q:Int)=(i:Int):=by omega
    have HY:=ι (show Cm.sfP n (Cm.idT n tr) (n - (i+1)) y=A by
     rw [← HS.out,e1,Cm.sfP_some (u:=Ma.oneN n) (by rw [show n - (n - i - 1+1)=i by omega,← hq.out,hqi]; exact Cm.idT_self),Cm.inv_one,Cm.mul_one GY.out,show n - i - 1=n - (i+1) by omega])
    have FY2:=ι (show Cm.Fx (i+1) y from fun j hj=>by
     by_cases e:j=i
     ·subst e; rw [← hq.out]; exact hqi
     ·exact FY.out j (by omega))
    clear hqi e1;go_upto_region 4 with (fail);refine Rg.wl ?_;refine Rg.lm 13 (.slice (some ⟨xb,xo,none⟩) n xc) ?_;go_frame;refine Rg.lm 14 (.int .i64 ((i:Nat):Int)) ?_;go_frame;refine Rg.lr 15 (exec_indexS slPerm _ _ rfl xb (xo) (n) xc (i) rfl rfl HIN.out) ?_;go_frame;refine Rg.lr 16 (Rg.exec_load (v:=.int .i64 ((q:Nat):Int)) _ _ rfl ⟨xb,xo+i,none⟩ rfl (run_loadInt CX.out.cell)) ?_;go_frame;refine Rg.la 6 (.int .i64 ((q:Nat):Int)) ?_;go_frame;go_upto_region 6 with (fail);refine Rg.wl ?_;refine Rg.lm 28 (.int .i64 ((q:Nat):Int)) ?_;go_frame;refine Rg.lm 29 (.int .i64 ((i:Nat):Int)) ?_;go_frame;refine Rg.lr 30 (exec_bin (R:=.bool true) .eql _ _ _ rfl rfl rfl (b_eql _ Rg.dT)) ?_;go_frame;refine Rg.la 27 (.bool true) ?_;go_frame;go_wp2
    go_roundw
    case rel=>exact ⟨i+1,y,_,HIN.out,by go_num,X,HT,K,GY,FY2,HY⟩
    case measure=>simp [intOf]; have:=HIN.out; omega
   ·have hqN:¬ (q:Int)=(i:Int):=by omega
    cases htr:tr i q with
    | none =>
     have hnil:=HT.out.none_ i q hin hqn htr;rw [hnil] at CE
     have HE:=ι (show A=(i,y) by
      rw [← HS.out,e1,Cm.sfP_none]
      ·rw [show n - (n - i - 1+1)=i by omega]
      ·rw [show n - (n - i - 1+1)=i by omega,← hq.out,Cm.idT_ne hqi]; exact htr)
     clear hnil htr hqi e1;go_upto_region 4 with (fail);refine Rg.wl ?_;refine Rg.lm 13 (.slice (some ⟨xb,xo,none⟩) n xc) ?_;go_frame;refine Rg.lm 14 (.int .i64 ((i:Nat):Int)) ?_;go_frame;refine Rg.lr 15 (exec_indexS slPerm _ _ rfl xb (xo) (n) xc (i) rfl rfl HIN.out) ?_;go_frame;refine Rg.lr 16 (Rg.exec_load (v:=.int .i64 ((q:Nat):Int)) _ _ rfl ⟨xb,xo+i,none⟩ rfl (run_loadInt CX.out.cell)) ?_;go_frame;refine Rg.la 6 (.int .i64 ((q:Nat):Int)) ?_;go_frame;go_upto_region 6 with (fail);refine Rg.wl ?_;refine Rg.lm 28 (.int .i64 ((q:Nat):Int)) ?_;go_frame;refine Rg.lm 29 (.int .i64 ((i:Nat):Int)) ?_;go_frame;refine Rg.lr 30 (exec_bin (R:=.bool false) .eql _ _ _ rfl rfl rfl (b_eql _ Rg.dF)) ?_;go_frame;refine Rg.la 27 (.bool false) ?_;go_frame;go_upto_region 7 with (fail);refine Rg.wl ?_;refine Rg.lm 32 (.slice (some ⟨tb,tf,none⟩) n tc) ?_;go_frame;refine Rg.lm 33 (.int .i64 ((i:Nat):Int)) ?_;go_frame
     refine Rg.lr 34 (exec_indexS slTable _ _ rfl tb (tf) (n) tc (i) rfl rfl HIN.out) ?_;go_frame;refine Rg.lr 35 (Rg.exec_load (v:=.slice (some ⟨(Rb i),0,none⟩) n n) _ _ rfl ⟨tb,tf+i,none⟩ rfl (Rg.run_loadSl _ _ Tryz.underlying22 CO.out.cell)) ?_;go_frame;refine Rg.lm 36 (.int .i64 ((q:Nat):Int)) ?_;go_frame;refine Rg.lr 37 (exec_indexS slPerms _ _ rfl (Rb i) (0) (n) n (q) rfl rfl hqn) ?_;go_frame;refine Rg.lr 38 (Rg.exec_load (v:=.slice none 0 0) _ _ rfl ⟨(Rb i),0+q,none⟩ rfl (Rg.run_loadSl _ _ Tryz.underlying51 (by rw [Nat.zero_add]; exact CE.out.cell))) ?_;go_frame;refine Rg.lr 39 (exec_nilT _ _ rfl rfl rfl) ?_;go_frame;refine Rg.la 31 (.bool true) ?_;go_frame;go_upto_region 8 with (fail);refine Rg.wl ?_;refine Rg.lm 40 (.slice (some ⟨tb,tf,none⟩) n tc) ?_;go_frame;refine Rg.lm 41 (.int .i64 ((i:Nat):Int)) ?_;go_frame;refine Rg.lr 42 (exec_indexS slTable _ _ rfl tb (tf) (n) tc (i) rfl rfl HIN.out) ?_;go_frame
     refine Rg.lr 43 (Rg.exec_load (v:=.slice (some ⟨(Rb i),0,none⟩) n n) _ _ rfl ⟨tb,tf+i,none⟩ rfl (Rg.run_loadSl _ _ Tryz.underlying22 CO.out.cell)) ?_;go_frame;refine Rg.lm 44 (.int .i64 ((q:Nat):Int)) ?_;go_frame;refine Rg.lm 45 (.slice (some ⟨xb,xo,none⟩) n xc) ?_;go_frame;refine Rg.lr 46 (exec_indexS slPerms _ _ rfl (Rb i) (0) (n) n (q) rfl rfl hqn) ?_;go_frame;refine Rg.list_skip none rfl rfl (Rg.exec_store _ _ _ rfl _ rfl _ rfl (Rg.run_storeSl _ infoPerm (by rw [Nat.zero_add]; exact CE.out.cell) (by rw [Nat.zero_add]; exact (HT.out.row i HIN.out).frozen _))) ?_;go_frame;obtain ⟨hT2,hk2⟩:=HT.out.put (p:=q) HIN.out X.out;have hkm:Rg.Kp (RbM n Rb) wr (wr.setCell ⟨Rb i,q,none⟩ (.slice (some ⟨xb,xo,none⟩) n xc)):=Rg.Kp.of_setCell ⟨i,HIN.out,rfl⟩;simp only [Nat.zero_add];generalize wr.setCell ⟨Rb i,q,none⟩ (.slice (some ⟨xb,xo,none⟩) n xc)=w40 at *;have HFI:=ι (show TabAt F tb tf n w40 (insT n tr A) Rb _ by unfold insT; rw [HE.out,if_pos HIN.out,← hq.out]; exact hT2)
     have K2:=ι (K.out.put hk2 hkm);clear hT2 hk2 hkm;go_wp2;go_ret;exact InsPost.intro _ _ true K2.out HFI.out (by rw [HE.out]; exact decide_eq_true HIN.out)
    | some u =>
     have hid:Cm.idT n tr i q=some u:=by rw [Cm.idT_ne hqi]; exact htr
     have gu:=HR.out.gd i q u (Nat.zero_le _) hin hid;have hup:=HT.out.some_ i q u hin hqn htr;obtain ⟨ub,uo,uc,huv⟩:=hup.shape' gu hn1;rw [huv] at hup CE;have UP:=ι hup;have GU:=ι gu;have GI:=ι (Cm.gd_inv gu)
     have HY:=ι (show Cm.sfP n (Cm.idT n tr) (n - (i+1)) (Ma.mulN y (Ma.invN u))=A by
      rw [← HS.out,e1,Cm.sfP_some (u:=u) (by rw [show n - (n - i - 1+1)=i by omega,← hq.out]; exact hid),show n - i - 1=n - (i+1) by omega])
     obtain ⟨hgy2,hfy2⟩:=Cm.step_fx HR.out (Nat.zero_le _) hin GY.out FY.out (by rw [← hq.out]; exact hid);have GY2:=ι hgy2;have FY2:=ι hfy2;clear hid gu hup huv htr hgy2 hfy2 hqi e1;go_upto_region 4 with (fail);refine Rg.wl ?_;refine Rg.lm 13 (.slice (some ⟨xb,xo,none⟩) n xc) ?_;go_frame;refine Rg.lm 14 (.int .i64 ((i:Nat):Int)) ?_;go_frame;refine Rg.lr 15 (exec_indexS slPerm _ _ rfl xb (xo) (n) xc (i) rfl rfl HIN.out) ?_;go_frame;refine Rg.lr 16 (Rg.exec_load (v:=.int .i64 ((q:Nat):Int)) _ _ rfl ⟨xb,xo+i,none⟩ rfl (run_loadInt CX.out.cell)) ?_;go_frame;refine Rg.la 6 (.int .i64 ((q:Nat):Int)) ?_;go_frame;go_upto_region 6 with (fail);refine Rg.wl ?_;refine Rg.lm 28 (.int .i64 ((q:Nat):Int)) ?_;go_frame;refine Rg.lm 29 (.int .i64 ((i:Nat):Int)) ?_;go_frame;refine Rg.lr 30 (exec_bin (R:=.bool false) .eql _ _ _ rfl rfl rfl (b_eql _ Rg.dF)) ?_;go_frame;refine Rg.la 27 (.bool false) ?_;go_frame
     go_upto_region 7 with (fail);refine Rg.wl ?_;refine Rg.lm 32 (.slice (some ⟨tb,tf,none⟩) n tc) ?_;go_frame;refine Rg.lm 33 (.int .i64 ((i:Nat):Int)) ?_;go_frame;refine Rg.lr 34 (exec_indexS slTable _ _ rfl tb (tf) (n) tc (i) rfl rfl HIN.out) ?_;go_frame;refine Rg.lr 35 (Rg.exec_load (v:=.slice (some ⟨(Rb i),0,none⟩) n n) _ _ rfl ⟨tb,tf+i,none⟩ rfl (Rg.run_loadSl _ _ Tryz.underlying22 CO.out.cell)) ?_;go_frame;refine Rg.lm 36 (.int .i64 ((q:Nat):Int)) ?_;go_frame;refine Rg.lr 37 (exec_indexS slPerms _ _ rfl (Rb i) (0) (n) n (q) rfl rfl hqn) ?_;go_frame;refine Rg.lr 38 (Rg.exec_load (v:=.slice (some ⟨ub,uo,none⟩) n uc) _ _ rfl ⟨(Rb i),0+q,none⟩ rfl (Rg.run_loadSl _ _ Tryz.underlying51 (by rw [Nat.zero_add]; exact CE.out.cell))) ?_;go_frame;refine Rg.lr 39 (exec_nilF _ _ rfl rfl rfl) ?_;go_frame;refine Rg.la 31 (.bool false) ?_;go_frame;go_upto_region 5 with (fail)
     refine Rg.wl ?_;refine Rg.lm 17 (.slice (some ⟨xb,xo,none⟩) n xc) ?_;go_frame;refine Rg.lm 18 (.slice (some ⟨tb,tf,none⟩) n tc) ?_;go_frame;refine Rg.lm 19 (.int .i64 ((i:Nat):Int)) ?_;go_frame;refine Rg.lr 20 (exec_indexS slTable _ _ rfl tb (tf) (n) tc (i) rfl rfl HIN.out) ?_;go_frame;refine Rg.lr 21 (Rg.exec_load (v:=.slice (some ⟨(Rb i),0,none⟩) n n) _ _ rfl ⟨tb,tf+i,none⟩ rfl (Rg.run_loadSl _ _ Tryz.underlying22 CO.out.cell)) ?_;go_frame;refine Rg.lm 22 (.int .i64 ((q:Nat):Int)) ?_;go_frame;refine Rg.lr 23 (exec_indexS slPerms _ _ rfl (Rb i) (0) (n) n (q) rfl rfl hqn) ?_;go_frame;refine Rg.lr 24 (Rg.exec_load (v:=.slice (some ⟨ub,uo,none⟩) n uc) _ _ rfl ⟨(Rb i),0+q,none⟩ rfl (Rg.run_loadSl _ _ Tryz.underlying51 (by rw [Nat.zero_add]; exact CE.out.cell))) ?_;go_frame;refine Rg.lk 25 (exec_fn1 146 _ _ rfl rfl (Wfcl0 _ _)) ?_;refine (kInv_f UP.out GU.out hn2).mono ?_
     rintro e1 w1 ⟨iv,rfl,hiv,hb⟩;refine ⟨_,rfl,?_⟩;go_frame;replace X:=ι (X.out.up hb);replace HT:=ι (HT.out.up hb);replace CX:=ι (CX.out.up hb);replace CO:=ι (CO.out.up hb);replace CE:=ι (CE.out.up hb);replace UP:=ι (UP.out.up hb);replace K:=ι (K.out.up hb);have IV:=ι hiv;generalize Fup F wr w1=F1 at *;clear hb;clear hiv;refine Rg.lk 26 (exec_fn 72 _ _ _ rfl rfl rfl (Wfcl1 _ _)) ?_;refine (kMul_f X.out IV.out GY.out GI.out hn2).mono ?_;rintro e1 w2 ⟨mv,rfl,hmv,hb⟩;refine ⟨_,rfl,?_⟩;go_frame;replace X:=ι (X.out.up hb);replace HT:=ι (HT.out.up hb);replace CX:=ι (CX.out.up hb);replace CO:=ι (CO.out.up hb);replace CE:=ι (CE.out.up hb);replace UP:=ι (UP.out.up hb);replace IV:=ι (IV.out.up hb);replace K:=ι (K.out.up hb);have MV:=ι hmv;generalize Fup F1 w1 w2=F2 at *;clear hb;refine Rg.la 1 (mv) ?_;go_frame;clear hmv;go_wp2
     go_roundw
     case rel=>exact ⟨i+1,_,_,HIN.out,by go_num,MV,HT,K,GY2,FY2,HY⟩
     case measure=>simp [intOf]; have:=HIN.out; omega
  ·obtain rfl:i=n:=by omega
   have hiN:¬ (i:Int)<(i:Int):=by omega
   have HE:=ι (show A=(i,y) by rw [← HS.out,Nat.sub_self]; rfl);have HFI:=ι (show TabAt F tb tf i wr (insT i tr A) Rb V by unfold insT; rw [HE.out,if_neg (Nat.lt_irrefl _)]; exact HT.out);go_wp2;go_ret;exact InsPost.intro _ _ false K.out HFI.out (by rw [HE.out]; exact decide_eq_false (Nat.lt_irrefl _))

theorem infoPermN:(Tryz.prog.info? 51).map (fun i=>(i.zero,i.size,i.bytes))=some (some (.slice none 0 0),1,24):=by kernel_rfl
theorem mkPerms (n:Nat) (hn:n≤1000000) (w:World):(Instr.makeSlice 22 (.int .i64 (n:Int)) (.int .i64 (n:Int))).run Tryz.prog w=.ok (.slice (some ⟨w.heap.size,0,none⟩) n n) (w.alloc (.cells (madeCells #[.slice none 0 0] n) 51)) :=
 run_make_row' 22 51 (.slice none 0 0) 24 Tryz.underlying22 infoPermN rfl .i64 .i64 n (by omega) (by omega) w
theorem run_build1T (X:World) (u:Value) (hs:∃ a n c,u=.slice a n c):(Instr.buildSlice 213 1 #[(0,u)]).run Tryz.prog X=.ok (.slice (some ⟨X.heap.size,0,none⟩) 1 1) (X.alloc (.cells #[u] 22)):=by
 obtain ⟨i0,hi,hz0,hz1,hz2⟩:=info_parts infoPermsV;obtain ⟨a,n,c,rfl⟩:=hs;refine run_buildSlice X 213 22 1 _ _ i0 _ Tryz.underlying213 hi hz0 (by rw [hz1]; decide) (by rw [hz1]; decide) ?_;generalize (fun x=>((Value.slice none 0 0).cells)[x % (Value.slice none 0 0).cells.size]!)=f;rw [hz1];have h1:Array.range (1*1)=#[0]:=rfl;simp [Instr.fill,Value.cells,h1]
structure EmI (B n:Nat) (W:World) (v:Value) (k:Nat) (Rb:Nat→Nat):Prop where
 size:B≤W.heap.size
 own:W.ownsRow B 22 1 v k ((List.range k).map (fun j=>.slice (some ⟨Rb j,0,none⟩) n n))
 row:∀ j,j<k→W.rowIs (Rb j) 51 n (fun _=>.slice none 0 0)∧B≤Rb j∧v.ownBlock≠some (Rb j)
 inj:∀ i j,i<k→j<k→Rb i=Rb j→i=j
theorem EmI.start (n:Nat) (w:World):EmI w.heap.size n w (.slice none 0 0) 0 (fun _=>0) :=
 ⟨Nat.le_refl _,World.ownsRow_nil _ _ _ _,fun _ h=>absurd h (Nat.not_lt_zero _),fun _ _ h=>absurd h (Nat.not_lt_zero _)⟩
theorem EmI.push {B n:Nat} {W:World} {v:Value} {k:Nat} {Rb:Nat→Nat} (h:EmI B n W v k Rb) (hk:k<1000000) (ty:TypeId) :
  ∃ a c X,(Builtin.append_ #[213,213] ty #[v,.slice (some ⟨W.heap.size+1,0,none⟩) 1 1]).run Tryz.prog ((W.alloc (.cells (madeCells #[.slice none 0 0] n) 51)).alloc (.cells #[.slice (some ⟨W.heap.size,0,none⟩) n n] 22))=.ok (.slice a (k+1) c) X ∧
   EmI B n X (.slice a (k+1) c) (k+1) (fun j=>if j=k then W.heap.size else Rb j)∧(∀ {B':Nat} {W0:World},B'≤B→Below B' W0 W→Below B' W0 X):=by
 have hb1:Below W.heap.size W (W.alloc (.cells (madeCells #[.slice none 0 0] n) 51)):=(Below.refl _ _).alloc (Nat.le_refl _) _
 have hs1:(W.alloc (.cells (madeCells #[.slice none 0 0] n) 51)).heap.size=W.heap.size+1:=by simp
 have hnew:=World.rowIs_made W (.slice none 0 0) n 51;generalize (W.alloc (.cells (madeCells #[.slice none 0 0] n) 51))=W1 at *;have hb2:Below W1.heap.size W1 (W1.alloc (.cells #[.slice (some ⟨W.heap.size,0,none⟩) n n] 22)):=(Below.refl _ _).alloc (Nat.le_refl _) _
 have hs2:(W1.alloc (.cells #[.slice (some ⟨W.heap.size,0,none⟩) n n] 22)).heap.size=W1.heap.size+1:=by simp
 have hc:(W1.alloc (.cells #[.slice (some ⟨W.heap.size,0,none⟩) n n] 22)).cell? ⟨W.heap.size+1,0,none⟩=some (.slice (some ⟨W.heap.size,0,none⟩) n n):=by
  rw [← hs1,Rg.cellNew]; rfl
 generalize (W1.alloc (.cells #[.slice (some ⟨W.heap.size,0,none⟩) n n] 22))=W2 at *;have hk12:Rg.Kp (fun _=>False) W W2:=Rg.Kp.trans (Rg.Kp.of_below hb1) (Rg.Kp.of_below (M:=fun _=>False) hb2) (fun _ _ e=>e);have hown:=Rg.row_below (Rg.row_below h.own hb1) hb2;obtain ⟨v',X,r1,r2,r3,r4,a,c,rfl⟩:=app_run (P:=Tryz.prog) slTable ty hown (by have:=h.size; omega) (W.heap.size+1) 1 hc rfl hk;have hkX:Rg.Kp (fun z=>v.ownBlock=some z) W2 X:=Rg.Kp.of_grown r3 fun _ e=>e;have hkW:Rg.Kp (fun z=>v.ownBlock=some z) W X:=Rg.Kp.trans (M:=fun z=>v.ownBlock=some z) (hk12.weak fun _=>False.elim) hkX (fun _ _ e=>e);have hlt:=fun z e=>(h.own.lt z e)
 have hno:∀ z,z<W2.heap.size→v.ownBlock≠some z→(Value.slice a (k+1) c).ownBlock≠some z:=fun z hz h1 e=>by
  rcases r4 with r4 | r4
  ·rw [r4] at e; exact h1 e
  ·rw [r4] at e; injection e with e; omega
 refine ⟨a,c,X,r1,⟨by have:=h.size; have:=hkW.size; omega,?_,fun j hj=>?_,fun i j hi hj e=>?_⟩,fun {B' W0} hB' hb0=>?_⟩
 ·have e:(List.range (k+1)).map (fun j=>Value.slice (some ⟨if j=k then W.heap.size else Rb j,0,none⟩) n n)=(List.range k).map (fun j=>Value.slice (some ⟨Rb j,0,none⟩) n n)++[.slice (some ⟨W.heap.size,0,none⟩) n n]:=by
   have e1:(List.range k).map (fun j=>Value.slice (some ⟨if j=k then W.heap.size else Rb j,0,none⟩) n n)=(List.range k).map (fun j=>Value.slice (some ⟨Rb j,0,none⟩) n n) :=
    List.map_congr_left fun j hj=>by rw [if_neg (by have:=List.mem_range.1 hj; omega)]
   rw [List.range_succ,List.map_append,e1,List.map_singleton,if_pos rfl]
  rw [e]; exact r2
 ·by_cases e:j=k
  ·simp only [if_pos e]
   exact ⟨rowIs_kp (rowIs_kp (M:=fun _=>False) hnew (Rg.Kp.of_below hb2) id) hkX (fun e2=>by have:=(hlt _ e2).2; omega),h.size,hno _ (by omega) (fun e2=>by have:=(hlt _ e2).2; omega)⟩
  ·simp only [if_neg e]
   obtain ⟨g1,g2,g3⟩:=h.row j (by omega);have:=rowIs_lt g1;exact ⟨rowIs_kp g1 hkW g3,g2,hno _ (by omega) g3⟩
 ·by_cases e1:i=k
  ·by_cases e2:j=k
   ·omega
   ·simp only [if_pos e1,if_neg e2] at e
    have:=rowIs_lt (h.row j (by omega)).1;omega
  ·by_cases e2:j=k
   ·simp only [if_neg e1,if_pos e2] at e
    have:=rowIs_lt (h.row i (by omega)).1;omega
   ·simp only [if_neg e1,if_neg e2] at e
    exact h.inj i j (by omega) (by omega) e
 ·refine hb0.trans ⟨hkW.os,hkW.tape,hkW.output,hkW.size,fun z hz=>hkW.block z ?_ fun e=>?_⟩
  ·have:=h.size; omega
  ·have:=(hlt z e).1; omega
theorem EmI.done {n:Nat} {W w:World} {v:Value} {Rb:Nat→Nat} (h:EmI w.heap.size n W v n Rb) (hn:0<n) (hb:Below w.heap.size w W):∃ tb c F,v=.slice (some ⟨tb,0,none⟩) n c∧KG (fun k=>k<w.heap.size) w F W∧TabAt F tb 0 n W (fun _ _=>none) Rb (fun _ _=>.slice none 0 0):=by
 obtain ⟨g,c,u,rfl,_,_,hg⟩:=row_of h.own hn;have hgo:w.heap.size≤g:=(h.own.lt g rfl).1
 refine ⟨g,c,fun k=>k<w.heap.size∨k=g,rfl,⟨fun k hk=>.inl hk,fun k hk=>by rcases hk with hk | rfl; exact Nat.lt_of_lt_of_le hk hb.size; exact hg,KF.of_below hb⟩,⟨fun k hk=>by rcases hk with hk | rfl; exact Nat.lt_of_lt_of_le hk hb.size; exact hg,fun i hi=>?_,fun i hi e=>?_,h.inj,fun i hi=>(h.row i hi).1,fun i p u _ _ e=>(by cases e),fun _ _ _ _ _=>rfl⟩⟩
 ·obtain ⟨g',c',u',e1,e2,e3,_⟩:=row_of h.own hi
  simp at e1;obtain ⟨rfl,_⟩:=e1;refine ⟨?_,.inr rfl,hg⟩;rw [e2,← e3];simp [hi]
 ·obtain ⟨_,g2,g3⟩:=h.row i hi
  rcases e with e | e
  ·omega
  ·exact g3 (by rw [e]; rfl)
def EmPost (n:Nat) (w:World) (e:Ending) (w':World):Prop:=∃ tb c F Rb,e=.returned (.slice (some ⟨tb,0,none⟩) n c)∧KG (fun k=>k<w.heap.size) w F w'∧TabAt F tb 0 n w' (fun _ _=>none) Rb (fun _ _=>.slice none 0 0)
theorem empty_any {n:Nat} (hn1:1≤n) (hn2:n≤64) (w:World) :
  Calls Tryz.prog 197 #[.int .i64 ((n:Nat):Int)] w (EmPost n w):=by
 have HE:=ι (EmI.start n w);have K:=ι (Below.refl w.heap.size w)
 go_enter Tryz.func197,Tryz.ntmps197
 go_wp2
 go_loopw [3,4] (fun tv iv wr=>∃ (k:Nat) (Rb:Nat→Nat),iv=.int .i64 k∧k≤n∧(∃ a c,tv=.slice a k c)∧Hid (EmI w.heap.size n wr tv k Rb)∧Hid (Below w.heap.size w wr)) (fun _ iv _=>n - (intOf iv).toNat)
 case atStart=>exact ⟨0,_,rfl,Nat.zero_le _,⟨_,_,rfl⟩,HE,K⟩
 case round =>
  clear HE K;obtain ⟨k,Rb,rfl,hk,⟨ta,tc,rfl⟩,HE,K⟩:=hrel
  by_cases hkl:k<n
  ·have hkN:(k:Int)<(n:Int):=by omega
   have HKL:=ι hkl;go_upto_region 5 with (fail);refine Rg.wl ?_;refine Rg.lm 10 (.slice ta k tc) ?_;go_frame;refine Rg.lm 11 (.int .i64 ((n:Nat):Int)) ?_;go_frame;refine Rg.lr 12 (exec_makeSliceV _ _ _ rfl _ _ rfl rfl (mkPerms n (by omega) wr)) ?_;go_frame;refine Rg.lr 13 (Rg.exec_buildSlice _ _ _ rfl (.slice (some ⟨wr.heap.size,0,none⟩) n n) rfl (run_build1T _ _ ⟨_,_,_,rfl⟩)) ?_;go_frame;obtain ⟨a9,c9,X9,r1,r2,r3⟩:=HE.out.push (by have:=HKL.out; omega) 213
   have hsz:(wr.alloc (.cells (madeCells #[.slice none 0 0] n) 51)).heap.size=wr.heap.size+1:=by simp
   rw [← hsz] at r1;refine Rg.lr 14 (Rg.exec_append _ _ _ rfl rfl rfl r1) ?_;go_frame;refine Rg.la 3 (.slice a9 (k+1) c9) ?_;go_frame;have HE2:=ι r2;have K2:=ι (r3 (Nat.le_refl _) K.out);clear r1 r2 r3 hsz;go_wp2
   go_roundw
   case rel=>exact ⟨k+1,_,by go_num,HKL.out,⟨_,_,rfl⟩,HE2,K2⟩
   case measure=>simp [intOf]; have:=HKL.out; omega
  ·obtain rfl:k=n:=by omega
   have hkN:¬ (k:Int)<(k:Int):=by omega
   obtain ⟨tb,c,F,he,h1,h2⟩:=HE.out.done hn1 K.out;have H1:=ι h1;have H2:=ι h2
   injection he with e1 _ e2
   subst e1 e2;clear h1 h2;go_wp2;go_ret;exact (show EmPost _ _ _ _ from ⟨_,_,_,_,rfl,H1.out,H2.out⟩)
end Go.Proofs.YthehbckogieimaaGreat

namespace Go.Proofs.YthehbckogieimaaGreat
open Go.RowKit
open Go.Proofs
open Go.Proofs.Cm (Tr)
attribute [local irreducible] Go.Calls Go.wpList
theorem exec_nilNT {o:Oper} {a:Act} {w:World} {ad:Addr} {n c:Nat} (x y:Operand) (ho:o.op=.binOp .neq 51 x y 51) (hx:a.eval x=.slice (some ad) n c) (hy:a.eval y=.slice none 0 0):(execOp a.eval o).run Tryz.prog w=.ok (.value (.bool true)) w:=by
 have h1:(binOp .neq 51 (.slice (some ad) n c) (.slice none 0 0)).run Tryz.prog w=.ok (.bool true) w:=by kernel_rfl
 have hg:(eqGuard .neq 51 x y (.slice (some ad) n c) (.slice none 0 0)).run Tryz.prog w=.ok () w:=by
  simp [eqGuard]
 unfold execOp;simp only [ho,hx,hy,Sem.run_bind,Sem.run_pure,hg,h1,Result.andThen_ok]
theorem exec_nilNF {o:Oper} {a:Act} {w:World} (x y:Operand) (ho:o.op=.binOp .neq 51 x y 51) (hx:a.eval x=.slice none 0 0) (hy:a.eval y=.slice none 0 0):(execOp a.eval o).run Tryz.prog w=.ok (.value (.bool false)) w:=by
 have h1:(binOp .neq 51 (.slice none 0 0) (.slice none 0 0)).run Tryz.prog w=.ok (.bool false) w:=by kernel_rfl
 have hg:(eqGuard .neq 51 x y (.slice none 0 0) (.slice none 0 0)).run Tryz.prog w=.ok () w:=by
  simp [eqGuard]
 unfold execOp;simp only [ho,hx,hy,Sem.run_bind,Sem.run_pure,hg,h1,Result.andThen_ok]
def entP (n:Nat) (tr:Tr) (i p:Nat):List (List Nat):=(List.range i).flatMap (fun j=>(List.range n).filterMap (tr j))++(List.range p).filterMap (tr i)
def ents (n:Nat) (tr:Tr):List (List Nat):=(List.range n).flatMap (fun j=>(List.range n).filterMap (tr j))
theorem entP_none {n:Nat} {tr:Tr} {i p:Nat} (h:tr i p=none):entP n tr i (p+1)=entP n tr i p:=by
 unfold entP;rw [List.range_succ,List.filterMap_append];simp [h]
theorem entP_some {n:Nat} {tr:Tr} {i p:Nat} {u:List Nat} (h:tr i p=some u):entP n tr i (p+1)=entP n tr i p++[u]:=by
 unfold entP;rw [List.range_succ,List.filterMap_append,List.append_assoc];simp [h]
theorem entP_row (n:Nat) (tr:Tr) (i:Nat):entP n tr i n=entP n tr (i+1) 0:=by
 unfold entP;rw [List.range_succ,List.flatMap_append];simp
theorem entP_all (n:Nat) (tr:Tr):entP n tr n 0=ents n tr:=by
 unfold entP ents; simp
theorem filterMap_len {α β:Type} (f:α→Option β):∀ l:List α,(l.filterMap f).length≤l.length
 | []=>Nat.le_refl _
 | a :: l=>by
  have:=filterMap_len f l
  cases h:f a with
  | none=>rw [List.filterMap_cons_none h]; simp; omega
  | some b=>rw [List.filterMap_cons_some h]; simp; omega
theorem entP_len (n:Nat) (tr:Tr):∀ i p,(entP n tr i p).length≤i*n+p
 | 0,p=>by
  have:=filterMap_len (tr 0) (List.range p);unfold entP; simp at this ⊢; exact this
 | i+1,p=>by
  have h1:=entP_len n tr i n;rw [entP_row] at h1;have h2:=filterMap_len (tr (i+1)) (List.range p);rw [List.length_range] at h2
  have h3:(entP n tr (i+1) p).length=(entP n tr (i+1) 0).length+((List.range p).filterMap (tr (i+1))).length:=by
   unfold entP; simp
  have h4:(i+1)*n=i*n+n:=Nat.succ_mul i n;omega
structure RowF (F:Nat→Prop) (B:Nat) (W:World) (v:Value) (l:List (List Nat)):Prop where
 size:B≤W.heap.size
 own:∃ us,W.ownsRow B 51 1 v l.length us∧Rg.FElts F W us (l.map Ma.ofN)
theorem RowF.nil (F:Nat→Prop) {B:Nat} {W:World} (h:B≤W.heap.size):RowF F B W (.slice none 0 0) []:=⟨h,[],World.ownsRow_nil _ _ _ _,Rg.FElts.nil _ _⟩
theorem RowF.below {F:Nat→Prop} {B:Nat} {W W':World} {v:Value} {l:List (List Nat)} (h:RowF F B W v l) (hb:Below W.heap.size W W'):RowF F B W' v l:=by
 obtain ⟨us,h1,h2⟩:=h.own;exact ⟨Nat.le_trans h.size hb.size,us,Rg.row_below h1 hb,h2.kp (M:=fun _=>False) (Rg.Kp.of_below hb) (fun _ _=>id)⟩
theorem RowF.shape {F:Nat→Prop} {B:Nat} {W:World} {v:Value} {l:List (List Nat)} (h:RowF F B W v l):∃ a c,v=.slice a l.length c:=by
 obtain ⟨us,h1,_⟩:=h.own;exact Rg.row_shape h1
theorem RowF.pushK {F:Nat→Prop} {B:Nat} {W:World} {v:Value} {l:List (List Nat)} (h:RowF F B W v l) (hF:∀ k,F k→k<B) {u:Value} {x:List Nat} (hu:FP F W u x) (hs:∃ a m c,u=.slice a m c) (hn:l.length<1000000) (ty:TypeId) :
  ∃ a c X,(Builtin.append_ #[22,22] ty #[v,.slice (some ⟨W.heap.size,0,none⟩) 1 1]).run Tryz.prog (W.alloc (.cells #[u] 51))=.ok (.slice a (l.length+1) c) X∧RowF F B X (.slice a (l.length+1) c) (l++[x])∧(∀ {B':Nat} {W0:World},B'≤B→Below B' W0 W→Below B' W0 X)∧Rg.Kp (fun k=>v.ownBlock=some k) W X:=by
 obtain ⟨us,h1,h2⟩:=h.own;obtain ⟨a0,m0,c0,rfl⟩:=hs;have hb:Below W.heap.size W (W.alloc (.cells #[.slice a0 m0 c0] 51)):=(Below.refl _ _).alloc (Nat.le_refl _) _;obtain ⟨v',X,r1,r2,r3,r4,a,c,rfl⟩:=app_run (P:=Tryz.prog) slPerms ty (Rg.row_below h1 hb) (Nat.le_trans h.size hb.size) W.heap.size 1 (u:=.slice a0 m0 c0) (by rw [Rg.cellNew]; rfl) rfl hn;have hk:Rg.Kp (fun k=>v.ownBlock=some k) W X:=Rg.Kp.trans (M:=fun k=>v.ownBlock=some k) ((Rg.Kp.of_below hb).weak fun _=>False.elim) (Rg.Kp.of_grown r3 fun _ e=>e) (fun _ _ e=>e)
 have hg:∀ k,F k→¬ v.ownBlock=some k:=fun k g e=>by have:=hF k g; have:=(h1.lt k e).1; omega
 refine ⟨a,c,X,r1,⟨Nat.le_trans h.size hk.size,us++[.slice a0 m0 c0],by rw [List.length_append]; exact r2,by rw [List.map_append]; exact FElts.snoc (h2.kp hk hg) (Rg.FI.kp hu hk hg)⟩,fun {B' W0} hB' hb0=>?_,hk⟩;refine (hb0.trans ⟨hk.os,hk.tape,hk.output,hk.size,fun k hk'=>hk.block k ?_ fun e=>?_⟩)
 ·have:=h.size; omega
 ·have:=(h1.lt k e).1; omega
theorem RowF.push {F:Nat→Prop} {B:Nat} {W:World} {v:Value} {l:List (List Nat)} (h:RowF F B W v l) (hF:∀ k,F k→k<B) {u:Value} {x:List Nat} (hu:FP F W u x) (hs:∃ a m c,u=.slice a m c) (hn:l.length<1000000) (ty:TypeId) :
  ∃ a c X,(Builtin.append_ #[22,22] ty #[v,.slice (some ⟨W.heap.size,0,none⟩) 1 1]).run Tryz.prog (W.alloc (.cells #[u] 51))=.ok (.slice a (l.length+1) c) X∧RowF F B X (.slice a (l.length+1) c) (l++[x])∧(∀ {B':Nat} {W0:World},B'≤B→Below B' W0 W→Below B' W0 X):=by
 obtain ⟨a,c,X,r1,r2,r3,_⟩:=h.pushK hF hu hs hn ty;exact ⟨a,c,X,r1,r2,r3⟩
def EntPost (F:Nat→Prop) (B:Nat) (w:World) (l:List (List Nat)) (e:Ending) (w':World):Prop:=∃ v,e=.returned v∧RowF F B w' v l∧Below B w w'
theorem entries_any {n:Nat} (hn1:1≤n) (hn2:n≤64) {F:Nat→Prop} {tb tf tc:Nat} {w:World} {tr:Tr} {Rb:Nat→Nat} {V:Nat→Nat→Value} (hT:TabAt F tb tf n w tr Rb V) (hgd:∀ i p u,tr i p=some u→Cm.Gd n u) :
  Calls Tryz.prog 266 #[.slice (some ⟨tb,tf,none⟩) n tc] w (EntPost F w.heap.size w (ents n tr)):=by
 have HT:=ι hT;have HG:=ι hgd;have K:=ι (Below.refl w.heap.size w);have RO:=ι (show RowF F w.heap.size w (.slice none 0 0) (entP n tr 0 0) from RowF.nil F (Nat.le_refl _));clear hT hgd
 go_enter Tryz.func266,Tryz.ntmps266
 go_wp2
 go_loopw [3,4] (fun tv iv wr=>∃ i:Nat,iv=.int .i64 i∧i≤n∧Hid (RowF F w.heap.size wr tv (entP n tr i 0))∧Hid (Below w.heap.size w wr)) (fun _ iv _=>n - (intOf iv).toNat)
 case atStart=>exact ⟨0,rfl,Nat.zero_le _,RO,K⟩
 case round =>
  clear RO K;obtain ⟨i,rfl,hi,RO,K⟩:=hrel
  by_cases hin:i<n
  ·have hiN:(i:Int)<(n:Int):=by omega
   have HIN:=ι hin;have CO:=ι (HT.out.out i hin);go_wp2
   go_loopw [3,5] (fun tv pv wr=>∃ q:Nat,pv=.int .i64 q∧q≤n∧Hid (RowF F w.heap.size wr tv (entP n tr i q))∧Hid (Below w.heap.size w wr)) (fun _ pv _=>n - (intOf pv).toNat)
   case atStart=>exact ⟨0,rfl,Nat.zero_le _,RO,K⟩
   case round =>
    clear RO K;obtain ⟨q,rfl,hq,RO,K⟩:=hrel
    by_cases hqn:q<n
    ·have hqN:(q:Int)<(n:Int):=by omega
     have HQN:=ι hqn;have CE:=ι (CL.mk (show w.cell? ⟨Rb i,0+q,none⟩=some (V i q) by rw [Nat.zero_add]; exact HT.out.cell hin hqn) (HT.out.lt hin))
     cases htr:tr i q with
     | none =>
      have hnil:=HT.out.none_ i q hin hqn htr;rw [hnil] at CE;have HE:=ι (entP_none (n:=n) htr);clear hnil htr;go_upto_region 8 with (fail);refine Rg.wl ?_;refine Rg.lm 18 (.slice (some ⟨tb,tf,none⟩) n tc) ?_;go_frame;refine Rg.lm 19 (.int .i64 ((i:Nat):Int)) ?_;go_frame;refine Rg.lr 20 (exec_indexS slTable _ _ rfl tb (tf) (n) tc (i) rfl rfl HIN.out) ?_;go_frame;refine Rg.lr 21 (Rg.exec_load (v:=.slice (some ⟨(Rb i),0,none⟩) n n) _ _ rfl ⟨tb,tf+i,none⟩ rfl (Rg.run_loadSl _ _ Tryz.underlying22 ((Below.cell (p:=⟨tb,tf+i,none⟩) K.out CO.out.lt).trans CO.out.cell))) ?_;go_frame;refine Rg.lm 22 (.int .i64 ((q:Nat):Int)) ?_;go_frame;refine Rg.lr 23 (exec_indexS slPerms _ _ rfl (Rb i) (0) (n) n (q) rfl rfl HQN.out) ?_;go_frame;refine Rg.lr 24 (Rg.exec_load (v:=.slice none 0 0) _ _ rfl ⟨(Rb i),0+q,none⟩ rfl (Rg.run_loadSl _ _ Tryz.underlying51 ((Below.cell (p:=⟨(Rb i),0+q,none⟩) K.out CE.out.lt).trans CE.out.cell))) ?_;go_frame
      refine Rg.lr 25 (exec_nilNF _ _ rfl rfl rfl) ?_;go_frame;go_wp2
      go_roundw
      case rel=>exact ⟨q+1,by go_num,HQN.out,by rw [HE.out]; exact RO,K⟩
      case measure=>simp [intOf]; have:=HQN.out; omega
     | some u =>
      have gu:=HG.out i q u htr;have hup:=HT.out.some_ i q u hin hqn htr;obtain ⟨ub,uo,uc,huv⟩:=hup.shape' gu hn1;rw [huv] at hup CE;have UP:=ι hup;have HE:=ι (entP_some (n:=n) htr)
      have HLN:=ι (show (entP n tr i q).length<1000000 by
       have h1:=entP_len n tr i q;have h2:i*n≤64*64:=Nat.mul_le_mul (by omega) hn2
       omega)
      obtain ⟨ta,tcc,hsh⟩:=RO.out.shape;subst hsh;clear gu hup huv htr;go_upto_region 8 with (fail);refine Rg.wl ?_;refine Rg.lm 18 (.slice (some ⟨tb,tf,none⟩) n tc) ?_;go_frame;refine Rg.lm 19 (.int .i64 ((i:Nat):Int)) ?_;go_frame;refine Rg.lr 20 (exec_indexS slTable _ _ rfl tb (tf) (n) tc (i) rfl rfl HIN.out) ?_;go_frame;refine Rg.lr 21 (Rg.exec_load (v:=.slice (some ⟨(Rb i),0,none⟩) n n) _ _ rfl ⟨tb,tf+i,none⟩ rfl (Rg.run_loadSl _ _ Tryz.underlying22 ((Below.cell (p:=⟨tb,tf+i,none⟩) K.out CO.out.lt).trans CO.out.cell))) ?_;go_frame;refine Rg.lm 22 (.int .i64 ((q:Nat):Int)) ?_;go_frame;refine Rg.lr 23 (exec_indexS slPerms _ _ rfl (Rb i) (0) (n) n (q) rfl rfl HQN.out) ?_;go_frame;refine Rg.lr 24 (Rg.exec_load (v:=.slice (some ⟨ub,uo,none⟩) n uc) _ _ rfl ⟨(Rb i),0+q,none⟩ rfl (Rg.run_loadSl _ _ Tryz.underlying51 ((Below.cell (p:=⟨(Rb i),0+q,none⟩) K.out CE.out.lt).trans CE.out.cell))) ?_;go_frame
      refine Rg.lr 25 (exec_nilNT _ _ rfl rfl rfl) ?_;go_frame;go_upto_region 9 with (fail);refine Rg.wl ?_;refine Rg.lm 26 (.slice ta (entP n tr i q).length tcc) ?_;go_frame;refine Rg.lm 27 (.slice (some ⟨tb,tf,none⟩) n tc) ?_;go_frame;refine Rg.lm 28 (.int .i64 ((i:Nat):Int)) ?_;go_frame;refine Rg.lr 29 (exec_indexS slTable _ _ rfl tb (tf) (n) tc (i) rfl rfl HIN.out) ?_;go_frame;refine Rg.lr 30 (Rg.exec_load (v:=.slice (some ⟨(Rb i),0,none⟩) n n) _ _ rfl ⟨tb,tf+i,none⟩ rfl (Rg.run_loadSl _ _ Tryz.underlying22 ((Below.cell (p:=⟨tb,tf+i,none⟩) K.out CO.out.lt).trans CO.out.cell))) ?_;go_frame;refine Rg.lm 31 (.int .i64 ((q:Nat):Int)) ?_;go_frame;refine Rg.lr 32 (exec_indexS slPerms _ _ rfl (Rb i) (0) (n) n (q) rfl rfl HQN.out) ?_;go_frame;refine Rg.lr 33 (Rg.exec_load (v:=.slice (some ⟨ub,uo,none⟩) n uc) _ _ rfl ⟨(Rb i),0+q,none⟩ rfl (Rg.run_loadSl _ _ Tryz.underlying51 ((Below.cell (p:=⟨(Rb i),0+q,none⟩) K.out CE.out.lt).trans CE.out.cell))) ?_;go_frame
      refine Rg.lr 34 (Rg.exec_buildSlice _ _ _ rfl (.slice (some ⟨ub,uo,none⟩) n uc) rfl (run_build1P wr _ ⟨_,_,_,rfl⟩)) ?_;go_frame;obtain ⟨a9,c9,X9,r1,r2,r3⟩:=RO.out.push HT.out.Flt (UP.out.below K.out) ⟨_,_,_,rfl⟩ HLN.out 22;refine Rg.lr 35 (Rg.exec_append _ _ _ rfl rfl rfl r1) ?_;go_frame;refine Rg.la 3 (.slice a9 ((entP n tr i q).length+1) c9) ?_;go_frame;have RO2:=ι r2;have K2:=ι (r3 (Nat.le_refl _) K.out);clear r1 r2 r3;go_wp2
      go_roundw
      case rel=>exact ⟨q+1,by go_num,HQN.out,by rw [HE.out]; exact RO2,K2⟩
      case measure=>simp [intOf]; have:=HQN.out; omega
    ·obtain rfl:q=n:=by omega
     have hqN:¬ (q:Int)<(q:Int):=by omega
     have RO2:=ι (by have:=RO.out; rwa [entP_row] at this);go_wp2
     go_roundw
     case rel=>exact ⟨i+1,by go_num,HIN.out,RO2,K⟩
     case measure=>simp [intOf]; have:=HIN.out; omega
  ·obtain rfl:i=n:=by omega
   have hiN:¬ (i:Int)<(i:Int):=by omega
   have RO2:=ι (by have:=RO.out; rwa [entP_all] at this);go_wp2;go_ret;exact (show EntPost _ _ _ _ _ _ from ⟨_,rfl,RO2.out,K.out⟩)
end Go.Proofs.YthehbckogieimaaGreat

namespace Go.Proofs.YthehbckogieimaaGreat
open Go.Proofs
open Go.Proofs.Cm (Tr TabOk Gr Gd Sd idT sfP)
theorem nodup_le {α:Type} [DecidableEq α]:∀ {l m:List α},l.Nodup→(∀ x∈l,x∈m)→l.length≤m.length
 | [],_,_,_=>Nat.zero_le _
 | a :: l,m,nd,h=>by
  have ha:=h a (List.mem_cons_self ..);have h1:=nodup_le (l:=l) (m:=m.erase a) (List.nodup_cons.1 nd).2 (fun x hx=>(List.mem_erase_of_ne (fun e:x=a=>(List.nodup_cons.1 nd).1 (by rw [← e]; exact hx))).2 (h x (List.mem_cons_of_mem _ hx)));rw [List.length_erase_of_mem ha] at h1;have h2:=List.length_pos_of_mem ha;simp only [List.length_cons]; omega
theorem mem_ents {n:Nat} {tr:Tr} {x:List Nat}:x∈ents n tr↔∃ i p,i<n∧p<n∧tr i p=some x:=by
 unfold ents;simp only [List.mem_flatMap,List.mem_range,List.mem_filterMap];exact ⟨fun ⟨i,hi,p,hp,e⟩=>⟨i,p,hi,hp,e⟩,fun ⟨i,p,hi,hp,e⟩=>⟨i,hi,p,hp,e⟩⟩
theorem tab_inj {n:Nat} {gs:List Nat→Prop} {tr:Tr} (h:TabOk n gs tr) {i p j q:Nat} {u:List Nat} (h1:tr i p=some u) (h2:tr j q=some u):i=j∧p=q:=by
 have key:∀ {i p j q:Nat},tr i p=some u→tr j q=some u→¬ i<j:=fun {i p j q} h1 h2 hlt=>by
  have hne:p≠i:=fun e=>by subst e; rw [h.diag] at h1; cases h1
  have hne2:q≠j:=fun e=>by subst e; rw [h.diag] at h2; cases h2
  have a1:=h.rp.at_ i p u (Nat.zero_le _) (h.lt i p u h1).1 (by rw [Cm.idT_ne hne]; exact h1);have a2:=h.rp.fx j q u (Nat.zero_le _) (h.lt j q u h2).1 (by rw [Cm.idT_ne hne2]; exact h2) i hlt;exact hne (a1.symm.trans a2)
 have e:i=j:=by
  rcases Nat.lt_trichotomy i j with h3 | h3 | h3
  ·exact absurd h3 (key h1 h2)
  ·exact h3
  ·exact absurd h3 (key h2 h1)
 subst e
 have hne:p≠i:=fun e=>by subst e; rw [h.diag] at h1; cases h1
 have hne2:q≠i:=fun e=>by subst e; rw [h.diag] at h2; cases h2
 have a1:=h.rp.at_ i p u (Nat.zero_le _) (h.lt i p u h1).1 (by rw [Cm.idT_ne hne]; exact h1);have a2:=h.rp.at_ i q u (Nat.zero_le _) (h.lt i q u h2).1 (by rw [Cm.idT_ne hne2]; exact h2);exact ⟨rfl,a1.symm.trans a2⟩
theorem ents_nodup {n:Nat} {gs:List Nat→Prop} {tr:Tr} (h:TabOk n gs tr):(ents n tr).Nodup:=by
 unfold ents List.Nodup;rw [List.pairwise_flatMap];refine ⟨fun i _=>?_,?_⟩
 ·rw [List.pairwise_filterMap]
  refine List.Pairwise.imp (fun {a b} hab x hx y hy e=>?_) (List.nodup_range (n:=n));subst e;exact hab (tab_inj h hx hy).2
 ·refine List.Pairwise.imp (fun {a b} hab x hx y hy e=>?_) (List.nodup_range (n:=n))
  subst e;rw [List.mem_filterMap] at hx hy;obtain ⟨p,_,hp⟩:=hx;obtain ⟨q,_,hq⟩:=hy;exact hab (tab_inj h hp hq).1
theorem tab_gd {n:Nat} {gs:List Nat→Prop} {tr:Tr} (h:TabOk n gs tr) {i p:Nat} {u:List Nat} (h1:tr i p=some u):Gd n u:=by
 have hne:p≠i:=fun e=>by subst e; rw [h.diag] at h1; cases h1
 exact h.rp.gd i p u (Nat.zero_le _) (h.lt i p u h1).1 (by rw [Cm.idT_ne hne]; exact h1)
theorem tab_gr {n:Nat} {gs:List Nat→Prop} {tr:Tr} (h:TabOk n gs tr) {i p:Nat} {u:List Nat} (h1:idT n tr i p=some u):Gr n gs u:=by
 by_cases e:p=i
 ·subst e; rw [Cm.idT_self] at h1; injection h1 with h1; rw [← h1]; exact .one
 ·rw [Cm.idT_ne e] at h1; exact h.mem i p u h1
theorem tab_ins {n:Nat} {gs:List Nat→Prop} (hg:∀ s,gs s→Gd n s) {tr:Tr} (h:TabOk n gs tr) {x:List Nat} (hx:Gr n gs x) :
  TabOk n gs (insT n tr (sfP n (idT n tr) n x))∧(∀ i p u,idT n tr i p=some u→idT n (insT n tr (sfP n (idT n tr) n x)) i p=some u)∧Sd n (idT n (insT n tr (sfP n (idT n tr) n x))) n x ∧
   ((ents n (insT n tr (sfP n (idT n tr) n x))).length≤(ents n tr).length→insT n tr (sfP n (idT n tr) n x)=tr):=by
 have gx:=(Gr.isG hg).gd x hx;obtain ⟨a1,_,a3,a4,a5⟩:=Cm.sfP_all h.rp (Nat.le_refl n) (by omega) gx (fun j hj=>absurd hj (by omega));have a6:=Cm.sfP_mem (tr:=idT n tr) (Gr.isG hg) (d:=n) (x:=x) (Nat.le_refl n) (fun i p u _ _ e=>tab_gr h e) hx;have a7:=fun tr' (hm:∀ i p u,idT n tr i p=some u→idT n tr' i p=some u) hs=>Cm.sfP_back (n:=n) (tr:=idT n tr) (tr':=idT n tr') (d:=n) (x:=x) (Nat.le_refl n) (fun i p u _=>hm i p u) hs;generalize sfP n (idT n tr) n x=A at *;obtain ⟨i,y⟩:=A;simp only at a1 a3 a4 a5 a6 a7;unfold insT
 by_cases hi:i<n
 ·simp only [if_pos hi]
  obtain ⟨b1,b2⟩:=h.put hi a3 a4 a6 (a5 hi)
  have hne:Cm.ap y i≠i:=fun e=>by have:=a5 hi; rw [e,Cm.idT_self] at this; cases this
  have hy:Cm.setT tr i (Cm.ap y i) y i (Cm.ap y i)=some y:=if_pos ⟨rfl,rfl⟩
  have hyid:idT n (Cm.setT tr i (Cm.ap y i) y) i (Cm.ap y i)=some y:=by rw [Cm.idT_ne hne]; exact hy
  refine ⟨b1,b2,a7 _ b2 ?_,fun hlen=>?_⟩
  ·have h1:n - i=(n - (i+1))+1:=by omega
   have hyS:=Cm.Sd.entry b1.rp hi hyid;have h2:=(Cm.Sd.up (k:=i) (d:=n - i) b1.rp (by omega) (by omega) a3 (by rw [show n - (n - i)=i by omega]; exact a4)).1;rw [show n - i+i=n by omega] at h2;exact h2 hyS
  ·exfalso
   have hn:y∉ents n tr:=fun hm=>by
    obtain ⟨j,q,hj,hq,e⟩:=mem_ents.1 hm
    have e2:Cm.setT tr i (Cm.ap y i) y j q=some y:=by
     by_cases hc:j=i∧q=Cm.ap y i
     ·exact if_pos hc
     ·unfold Cm.setT; rw [if_neg hc]; exact e
    obtain ⟨rfl,rfl⟩:=tab_inj b1 e2 hy;have:=a5 hi;rw [Cm.idT_ne hne,e] at this
    cases this
   have h1:=nodup_le (l:=y :: ents n tr) (m:=ents n (Cm.setT tr i (Cm.ap y i) y)) (List.nodup_cons.2 ⟨hn,ents_nodup h⟩) (fun z hz=>by
    rcases List.mem_cons.1 hz with rfl | hz
    ·exact mem_ents.2 ⟨i,_,hi,Cm.ap_lt a3 hi,hy⟩
    ·obtain ⟨j,q,hj,hq,e⟩:=mem_ents.1 hz
     refine mem_ents.2 ⟨j,q,hj,hq,?_⟩
     have hne3:q≠j:=fun e3=>by subst e3; rw [h.diag] at e; cases e
     have:=b2 j q z (by rw [Cm.idT_ne hne3]; exact e)
     rwa [Cm.idT_ne hne3] at this)
   simp only [List.length_cons] at h1;omega
 ·simp only [if_neg hi]
  obtain rfl:i=n:=by omega
  refine ⟨h,fun _ _ _ e=>e,a7 _ (fun _ _ _ e=>e) ?_,fun _=>trivial⟩;rw [Nat.sub_self];show y=_;exact Cm.Fx.all a3 a4
structure LE (n:Nat) (gs:List Nat→Prop) (tr:Tr) (l:List (List Nat)):Prop where
 ok:TabOk n gs tr
 sub:∀ x∈l,x∈ents n tr
 all:∀ x∈ents n tr,x∈l
 nd:l.Nodup
 gn:∀ s,gs s→Sd n (idT n tr) n s
theorem LE.len {n:Nat} {gs:List Nat→Prop} {tr:Tr} {l:List (List Nat)} (h:LE n gs tr l):l.length≤n*n:=by
 have h1:=nodup_le h.nd h.sub;have h2:=entP_len n tr n 0;rw [entP_all] at h2;omega
theorem LE.gr {n:Nat} {gs:List Nat→Prop} {tr:Tr} {l:List (List Nat)} (h:LE n gs tr l) {x:List Nat} (hx:x∈l):Gr n gs x∧Gd n x:=by
 obtain ⟨i,p,_,_,e⟩:=mem_ents.1 (h.sub x hx);exact ⟨h.ok.mem i p x e,tab_gd h.ok e⟩
theorem LE.start {n:Nat} {gs:List Nat→Prop} {tr:Tr} (h:TabOk n gs tr) (hg:∀ s,gs s→Sd n (idT n tr) n s):LE n gs tr (ents n tr):=⟨h,fun _ hx=>hx,fun _ hx=>hx,ents_nodup h,hg⟩
def freshL (n:Nat) (tr:Tr) (l:List (List Nat)):List (List Nat):=(ents n tr).filter fun x=>decide (x∉l)
theorem LE.more {n:Nat} {gs:List Nat→Prop} {tr tr':Tr} {l:List (List Nat)} (h:LE n gs tr l) (h':TabOk n gs tr') (hm:∀ i p u,idT n tr i p=some u→idT n tr' i p=some u):LE n gs tr' (l++freshL n tr' l):=by
 have hs:∀ x∈ents n tr,x∈ents n tr':=fun x hx=>by
  obtain ⟨i,p,hi,hp,e⟩:=mem_ents.1 hx
  have hne:p≠i:=fun e3=>by subst e3; rw [h.ok.diag] at e; cases e
  refine mem_ents.2 ⟨i,p,hi,hp,?_⟩;have:=hm i p x (by rw [Cm.idT_ne hne]; exact e)
  rwa [Cm.idT_ne hne] at this
 refine ⟨h',fun x hx=>?_,fun x hx=>?_,?_,fun s hs=>Sd.mono (fun i p u _=>hm i p u) (h.gn s hs)⟩
 ·rcases List.mem_append.1 hx with hx | hx
  ·exact hs x (h.sub x hx)
  ·exact (List.mem_filter.1 hx).1
 ·by_cases hl:x∈l
  ·exact List.mem_append_left _ hl
  ·exact List.mem_append_right _ (List.mem_filter.2 ⟨hx,by simp [hl]⟩)
 ·refine List.nodup_append.2 ⟨h.nd,List.Pairwise.filter _ (ents_nodup h'),fun a ha b hb e=>?_⟩
  subst e;have:=(List.mem_filter.1 hb).2;simp [ha] at this
def PrS (n:Nat) (tr:Tr) (l:List (List Nat)) (a b:Nat):Prop:=Sd n (idT n tr) n (Ma.mulN (l.getD a []) (l.getD b []))
theorem getD_app {l m:List (List Nat)} {a:Nat} (h:a<l.length):(l++m).getD a []=l.getD a []:=by
 rw [List.getD_eq_getElem?_getD,List.getD_eq_getElem?_getD,List.getElem?_append_left h]
theorem PrS.more {n:Nat} {tr tr':Tr} {l m:List (List Nat)} {a b:Nat} (h:PrS n tr l a b) (ha:a<l.length) (hb:b<l.length) (hm:∀ i p u,idT n tr i p=some u→idT n tr' i p=some u):PrS n tr' (l++m) a b:=by
 unfold PrS;rw [getD_app ha,getD_app hb];exact Sd.mono (fun i p u _=>hm i p u) h
theorem LE.done {n:Nat} {gs:List Nat→Prop} (hg:∀ s,gs s→Gd n s) {tr:Tr} {l:List (List Nat)} (h:LE n gs tr l) (hp:∀ a b,a<l.length→b<l.length→PrS n tr l a b):Cm.IsTr n (Gr n gs) (idT n tr):=by
 have hin:∀ i p u,i<n→p≠i→idT n tr i p=some u→∃ a,a<l.length∧l.getD a []=u:=fun i p u hi hne e=>by
  rw [Cm.idT_ne hne] at e;have h1:=h.all u (mem_ents.2 ⟨i,p,hi,(h.ok.lt i p u e).2,e⟩);obtain ⟨a,ha,e2⟩:=List.getElem_of_mem h1;exact ⟨a,ha,by rw [List.getD_eq_getElem?_getD,List.getElem?_eq_getElem ha]; exact e2⟩
 refine Cm.tab_isTr h.ok.rp hg h.gn (fun i p u hi e=>tab_gr h.ok e) fun i p u j q v hi hj e1 e2=>?_;have gu:=h.ok.rp.gd i p u (Nat.zero_le _) hi e1;have gv:=h.ok.rp.gd j q v (Nat.zero_le _) hj e2
 by_cases c1:p=i
 ·subst c1
  rw [Cm.idT_self] at e1
  injection e1 with e1
  subst e1;rw [Cm.one_mul gv];exact Cm.Sd.entry h.ok.rp hj e2
 ·by_cases c2:q=j
  ·subst c2
   rw [Cm.idT_self] at e2
   injection e2 with e2
   subst e2;rw [Cm.mul_one gu];exact Cm.Sd.entry h.ok.rp hi e1
  ·obtain ⟨a,ha,ea⟩:=hin i p u hi c1 e1
   obtain ⟨b,hb,eb⟩:=hin j q v hj c2 e2;have:=hp a b ha hb;unfold PrS at this
   rwa [ea,eb] at this
end Go.Proofs.YthehbckogieimaaGreat

namespace Go.Proofs.YthehbckogieimaaGreat
open Go.RowKit
open Go.Proofs
open Go.Proofs.Cm (Tr)
theorem appL5 {P:Program} {t e:TypeId} {z:Value} {bytes:Nat} (T:Rg.SlT P t e z bytes) (ty:TypeId) {B:Nat} {X:World} {v xv:Value} {n:Nat} {xs us:List Value} (hown:X.ownsRow B e 1 v n xs) (hX:B≤X.heap.size)
  (hus:Rg.Vals X xv us) (h1:∀ u∈us,u.oneCell'=true) (hn:n+us.length<1000000000) :
  ∃ v' X',(Builtin.append_ #[t,t] ty #[v,xv]).run P X=.ok v' X'∧X'.ownsRow B e 1 v' (n+us.length) (xs++us)∧X.grownBy X' v.ownBlock∧(v'.ownBlock=v.ownBlock∨v'.ownBlock=some X.heap.size):=by
 obtain ⟨i0,hi,hz0,hz1,hz2⟩:=info_parts T.info;obtain ⟨ad,cap,rfl,q2,q3,q4,q5⟩:=hus
 cases ad with
 | none =>
  have h0:us=[]:=by
   cases us with
   | nil=>rfl
   | cons u r=>obtain ⟨b,o,e1,_⟩:=q5 (by simp); cases e1
  subst h0;exact ⟨v,X,Rg.append_none (P:=P) (w:=X) B t ty e i0 1 cap T.ty hi v n xs hown,by simpa using hown,⟨rfl,rfl,rfl,Nat.le_refl _,fun _ _ _=>rfl⟩,.inl rfl⟩
 | some ad =>
  obtain ⟨v',w',hr,h2,h3,h4,h5⟩:=run_append_own_at (P:=P) X B t ty e i0 z 1 bytes T.ty hi hz0 hz1 hz2 T.zc (by decide) v n xs hown ad us.length cap us (by omega) (fun j u hu=>by
   have hj:=(List.getElem?_eq_some_iff.1 hu).1;obtain ⟨b,o,e1,e2,e3⟩:=q5 (by omega);simp at e1; subst e1
   rw [Addr.add_mid,e3 j hj,← hu,List.getElem?_eq_getElem hj]) h1 (by unfold maxLen; omega) (by have:(n+us.length)*bytes≤1000000000*64:=Nat.mul_le_mul (by omega) T.small; omega) hX
  exact ⟨v',w',hr,h2,h3,h5⟩
structure RowG (F M:Nat→Prop) (W:World) (v:Value) (l:List (List Nat)):Prop where
 own:∃ B us,B≤W.heap.size∧W.ownsRow B 51 1 v l.length us∧Rg.FElts F W us (l.map Ma.ofN)
 off:∀ k,v.ownBlock=some k→¬ F k∧¬ M k
theorem RowF.g {F M:Nat→Prop} {B:Nat} {W:World} {v:Value} {l:List (List Nat)} (h:RowF F B W v l) (hF:∀ k,F k→k<B) (hM:∀ k,M k→k<B):RowG F M W v l:=by
 obtain ⟨us,h1,h2⟩:=h.own;refine ⟨⟨B,us,h.size,h1,h2⟩,fun k e=>?_⟩;have:=(h1.lt k e).1;exact ⟨fun g=>by have:=hF k g; omega,fun g=>by have:=hM k g; omega⟩
theorem RowG.lt {F M:Nat→Prop} {W:World} {v:Value} {l:List (List Nat)} (h:RowG F M W v l):∀ k,v.ownBlock=some k→k<W.heap.size:=fun k e=>by
 obtain ⟨B,us,h0,h1,h2⟩:=h.own;exact (h1.lt k e).2
theorem RowG.up {F M:Nat→Prop} {W W':World} {v:Value} {l:List (List Nat)} (h:RowG F M W v l) (hb:Below W.heap.size W W'):RowG (Fup F W W') M W' v l:=by
 obtain ⟨B,us,h0,h1,h2⟩:=h.own;refine ⟨⟨B,us,Nat.le_trans h0 hb.size,Rg.row_below h1 hb,(h2.kp (M:=fun _=>False) (Rg.Kp.of_below hb) (fun _ _=>id)).mono fun _=>.inl⟩,fun k e=>⟨fun g=>?_,(h.off k e).2⟩⟩;have:=h.lt k e
 rcases g with g | g
 ·exact (h.off k e).1 g
 ·omega
theorem RowG.ki {F F' M:Nat→Prop} {W W':World} {v:Value} {l:List (List Nat)} (h:RowG F M W v l) (hk:KI F W F' W' M):RowG F' M W' v l:=by
 obtain ⟨B,us,h0,h1,h2⟩:=h.own;refine ⟨⟨B,us,Nat.le_trans h0 hk.kp.size,rowKp h1 hk.kp (fun k hk e=>(h.off k e).2 hk),(Rg.FElts.kp h2 hk.kg.kf (fun _ hF hn=>hn hF)).mono hk.kg.sub⟩,fun k e=>⟨fun g=>?_,(h.off k e).2⟩⟩;have:=h.lt k e
 rcases hk.new k g with g | g
 ·exact (h.off k e).1 g
 ·omega
theorem RowG.shape {F M:Nat→Prop} {W:World} {v:Value} {l:List (List Nat)} (h:RowG F M W v l):∃ a c,v=.slice a l.length c:=by
 obtain ⟨B,us,h0,h1,h2⟩:=h.own;exact Rg.row_shape h1
theorem RowG.at {F M:Nat→Prop} {W:World} {v:Value} {l:List (List Nat)} (h:RowG F M W v l) {i:Nat} (hi:i<l.length):∃ g c u,v=.slice (some ⟨g,0,none⟩) l.length c∧CL W g (0+i) u∧FP F W u l[i]:=by
 obtain ⟨B,us,h0,h1,h2⟩:=h.own;obtain ⟨g,c,u,e1,e2,e3,e4⟩:=row_of h1 hi;obtain ⟨hu,rfl⟩:=List.getElem?_eq_some_iff.1 e3;have:=h2.2 i hu (by rw [List.length_map]; exact hi);rw [List.getElem_map] at this;exact ⟨g,c,us[i],e1,⟨e2,e4⟩,this⟩
theorem RowG.app {F M:Nat→Prop} {W:World} {v v2:Value} {l m:List (List Nat)} {B2:Nat} (h:RowG F M W v l) (h2:RowF F B2 W v2 m) (hF:∀ k,F k→k<W.heap.size) (hM:∀ k,M k→k<W.heap.size) (hn:l.length+m.length<1000000) (ty:TypeId) :
  ∃ a c X,(Builtin.append_ #[22,22] ty #[v,v2]).run Tryz.prog W=.ok (.slice a (l.length+m.length) c) X∧RowG F M X (.slice a (l.length+m.length) c) (l++m)∧Rg.Kp (fun k=>v.ownBlock=some k) W X:=by
 obtain ⟨B,us,h0,h1,h3⟩:=h.own;obtain ⟨us2,g1,g2⟩:=h2.own
 have hl:us2.length=m.length:=by have:=g2.1; rwa [List.length_map] at this
 obtain ⟨v',X,r1,r2,r3,r4⟩:=appL5 (P:=Tryz.prog) slPerms ty h1 h0 (Rg.Vals.of_row g1 (by omega)) g2.oneCell (by omega);have hk:Rg.Kp (fun k=>v.ownBlock=some k) W X:=Rg.Kp.of_grown r3 fun _ e=>e;rw [hl] at r2;obtain ⟨a,c,rfl⟩:=Rg.row_shape r2;have hg:∀ k,F k→¬ v.ownBlock=some k:=fun k g e=>(h.off k e).1 g;refine ⟨a,c,X,r1,⟨⟨B,us++us2,Nat.le_trans h0 hk.size,by rw [List.length_append]; exact r2,by rw [List.map_append]; exact (h3.kp hk hg).app (g2.kp hk hg)⟩,fun k e=>?_⟩,hk⟩
 rcases r4 with r4 | r4
 ·exact h.off k (by rw [← r4]; exact e)
 ·rw [r4] at e
  injection e with e
  subst e;exact ⟨fun g=>by have:=hF _ g; omega,fun g=>by have:=hM _ g; omega⟩
end Go.Proofs.YthehbckogieimaaGreat

namespace Go.Proofs.YthehbckogieimaaGreat
open Go.RowKit
open Go.Proofs
open Go.Proofs.Cm (Tr)
attribute [local irreducible] Go.Calls
theorem Wkcl0 (args:Array Value) (w:World):(callFunc 266 args).run Tryz.prog w=.ok (.enter 266 args) w:=by kernel_rfl
theorem Wkcl1 (args:Array Value) (w:World):(callFunc 33 args).run Tryz.prog w=.ok (.enter 33 args) w:=by kernel_rfl
theorem RowF.at {F:Nat→Prop} {B:Nat} {W:World} {v:Value} {l:List (List Nat)} (h:RowF F B W v l) {i:Nat} (hi:i<l.length):∃ g c u,v=.slice (some ⟨g,0,none⟩) l.length c∧CL W g (0+i) u∧FP F W u l[i]:=by
 obtain ⟨us,h1,h2⟩:=h.own;obtain ⟨g,c,u,e1,e2,e3,e4⟩:=row_of h1 hi;obtain ⟨hu,rfl⟩:=List.getElem?_eq_some_iff.1 e3;have:=h2.2 i hu (by rw [List.length_map]; exact hi);rw [List.getElem_map] at this;exact ⟨g,c,us[i],e1,⟨e2,e4⟩,this⟩
theorem rows_at {w:World} {a:Option Addr} {m c:Nat} {l:List (List Nat)} (h:Rg.Rows w (.slice a m c) (l.map Ma.ofN)) {k:Nat} (hk:k<l.length):∃ b o u,a=some ⟨b,o,none⟩∧CL w b (o+k) u∧Rg.Ints w u (Ma.ofN l[k]):=by
 obtain ⟨a',c',e,_,_,_,h2⟩:=h.shape
 injection e with e1 _ _
 obtain ⟨b,o,e2,hb,h3⟩:=h2 (by rw [List.length_map]; omega);obtain ⟨u,hu,hi⟩:=h3 k (by rw [List.length_map]; exact hk);rw [List.getElem_map] at hi;exact ⟨b,o,u,e1.trans e2,⟨hu,hb⟩,hi⟩
def freshP (E l:List (List Nat)) (i:Nat):List (List Nat):=(E.take i).filter fun x=>decide (x∉l)
theorem freshP_no {E l:List (List Nat)} {i:Nat} (hi:i<E.length) (h:E[i]∈l):freshP E l (i+1)=freshP E l i:=by
 unfold freshP;rw [List.take_succ_eq_append_getElem hi,List.filter_append];simp [h]
theorem freshP_yes {E l:List (List Nat)} {i:Nat} (hi:i<E.length) (h:E[i]∉l):freshP E l (i+1)=freshP E l i++[E[i]]:=by
 unfold freshP;rw [List.take_succ_eq_append_getElem hi,List.filter_append];simp [h]
theorem freshP_le (E l:List (List Nat)) (i:Nat):(freshP E l i).length≤E.length:=by
 unfold freshP;exact Nat.le_trans (List.length_filter_le _ _) (List.length_take_le' _ _)
theorem freshP_all (n:Nat) (tr:Tr) (l:List (List Nat)):freshP (ents n tr) l (ents n tr).length=freshL n tr l:=by
 unfold freshP freshL;rw [List.take_length]
theorem mem_take_next {x:List Nat} {l:List (List Nat)} {k:Nat} (hk:k<l.length) (h:x∉l.take k):decide (x∈l.take (k+1))=decide (Ma.ofN x=Ma.ofN l[k]):=by
 have h1:(Ma.ofN x=Ma.ofN l[k])↔x=l[k]:=⟨Ma.ofN_inj,fun e=>by rw [e]⟩
 have h2:x∈l.take (k+1)↔x=l[k]:=by
  rw [List.take_succ_eq_append_getElem hk,List.mem_append,List.mem_singleton];exact ⟨fun e=>e.resolve_left h,.inr⟩
 exact decide_eq_decide.2 (h2.trans h1.symm)
def FrPost (F:Nat→Prop) (w:World) (l:List (List Nat)) (e:Ending) (w':World):Prop:=∃ v B,e=.returned v∧w.heap.size≤B∧RowF F B w' v l∧Below w.heap.size w w'
theorem fresh_any {n:Nat} (hn1:1≤n) (hn2:n≤64) {F:Nat→Prop} {tb tf tc:Nat} {w:World} {tr:Tr} {Rb:Nat→Nat} {V:Nat→Nat→Value} (hT:TabAt F tb tf n w tr Rb V) (hgd:∀ i p u,tr i p=some u→Cm.Gd n u) {lv:Value} {l:List (List Nat)} (hl:Rg.Rows w lv (l.map Ma.ofN)) :
  Calls Tryz.prog 267 #[.slice (some ⟨tb,tf,none⟩) n tc,lv] w (FrPost F w (freshL n tr l)):=by
 obtain ⟨la,lc,rfl,_,hl2,_,_⟩:=hl.shape;rw [List.length_map] at hl2;have HLEN:=ι hl2;have HT:=ι hT;have HG:=ι hgd;have HL:=ι hl;have HFL:=ι hT.Flt;have K:=ι (Below.refl w.heap.size w);clear hT hgd hl hl2;simp only [List.length_map]
 go_enter Tryz.func267,Tryz.ntmps267
 go_upto_region 2 with (fail);refine Rg.wl ?_;refine Rg.lm 10 (.slice (some ⟨tb,tf,none⟩) n tc) ?_;go_frame;refine Rg.lk 11 (exec_fn1 266 _ _ rfl rfl (Wkcl0 _ _)) ?_;refine (entries_any hn1 hn2 HT.out HG.out).mono ?_;rintro e1 w1 ⟨av,rfl,hav,hb⟩;refine ⟨_,rfl,?_⟩;go_frame;replace HT:=ι (HT.out.below hb);replace HL:=ι (HL.out.below hb);replace K:=ι (Rg.acc K.out hb);clear hb;have RA:=ι hav;refine Rg.la 6 (av) ?_;go_frame;clear hav;obtain ⟨aa,ac,hsa⟩:=RA.out.shape;subst hsa;obtain ⟨E,hE⟩:∃ E,Hid (ents n tr=E):=⟨_,ι rfl⟩;rw [hE.out] at RA ⊢;have KB:=K;have K1:=ι (Below.refl w1.heap.size w1);clear K;have RO:=ι (show RowF F w1.heap.size w1 (.slice none 0 0) (freshP E l 0) from RowF.nil F (Nat.le_refl _));have HFW:=ι (show ∀ k,F k→k<w1.heap.size from fun k hk=>Nat.lt_of_lt_of_le (HFL.out k hk) KB.out.size)
 have hEN:E.length<1000000:=by
  have h1:=entP_len n tr n 0;rw [entP_all,hE.out] at h1;have h2:n*n≤64*64:=Nat.mul_le_mul hn2 hn2;omega
 have HEN:=ι hEN;clear hEN;go_wp2
 go_loopw [5,7] (fun tv iv wr=>∃ i:Nat,iv=.int .i64 i∧i≤E.length∧Hid (RowF F w1.heap.size wr tv (freshP E l i))∧Hid (Below w1.heap.size w1 wr)) (fun _ iv _=>E.length - (intOf iv).toNat)
 case atStart=>exact ⟨0,rfl,Nat.zero_le _,RO,K1⟩
 case round =>
  clear RO K1;obtain ⟨i,rfl,hi,RO,K1⟩:=hrel;obtain ⟨ta,tcc,hsh⟩:=RO.out.shape;subst hsh;have hEN:=HEN.out
  by_cases hin:i<E.length
  ·have hiN:(i:Int)<(E.length:Int):=by omega
   have HIN:=ι hin;obtain ⟨g,c,u,e1,e2,e3⟩:=RA.out.at hin;simp only [Value.slice.injEq] at e1;obtain ⟨rfl,_,_⟩:=e1;obtain ⟨x,hx⟩:∃ x:List Nat,Hid (E[i]'hin=x):=⟨_,ι rfl⟩
   replace e3:FP F w1 u x:=by rw [← hx.out]; exact e3
   have CA:=ι e2;have UP:=ι e3;have XU:=ι (show Rg.Ints w1 u (Ma.ofN x) from e3.np);have HB0:=ι (show false=decide (x∈l.take 0) by simp);clear e2 e3;go_wp2
   go_loopw [8,9] (fun sv kv wr=>∃ (b:Bool) (k:Nat),sv=.bool b∧kv=.int .i64 k∧k≤l.length∧Hid (b=decide (x∈l.take k))∧Hid (RowF F w1.heap.size wr (.slice ta (freshP E l i).length tcc) (freshP E l i))∧Hid (Below w1.heap.size w1 wr)) (fun _ kv _=>l.length - (intOf kv).toNat)
   case atStart=>exact ⟨false,0,rfl,rfl,Nat.zero_le _,HB0,RO,K1⟩
   case round =>
    clear RO K1 HB0;obtain ⟨b,k,rfl,rfl,hk,HB,RO,K1⟩:=hrel
    by_cases hbt:b=true
    ·subst hbt
     have HMEM:=ι (show E[i]'HIN.out∈l by
      have:=HB.out;rw [hx.out]
      exact List.mem_of_mem_take (of_decide_eq_true this.symm))
     go_upto_region 8 with (fail);refine Rg.wl ?_;refine Rg.lW 18 (Rg.xm (.bool true) _ rfl rfl) ?_;go_frame;refine Rg.lW 19 (exec_not _ _ true rfl rfl) ?_;go_frame;refine Rg.lW 20 (Rg.xm (.bool false) _ rfl rfl) ?_;go_frame;refine listW_pass (some 21) rfl rfl ?_;go_frame;refine listW_pass (some 22) rfl rfl ?_;go_frame;refine listW_pass (some 23) rfl rfl ?_;go_frame;refine listW_pass (some 24) rfl rfl ?_;go_frame;refine Rg.lW 25 (exec_pickF (v:=.bool false) _ _ _ rfl rfl rfl) ?_;go_frame;go_upto_region 11 with (fail);refine Rg.wl ?_;refine Rg.lm 37 (.bool true) ?_;go_frame;refine Rg.lr 38 (exec_not _ _ true rfl rfl) ?_;go_frame;have HE:=ι (freshP_no HIN.out HMEM.out);go_wp2
     go_roundw
     case rel=>exact ⟨i+1,by go_num,HIN.out,by rw [HE.out]; exact RO,K1⟩
     case measure=>simp [intOf]; have:=HIN.out; omega
    ·have hbf:b=false:=by simpa using hbt
     subst hbf;clear hbt;have HNM:=ι (show x∉l.take k from of_decide_eq_false HB.out.symm);have hln:=HLEN.out
     by_cases hkl:k<l.length
     ·have hkN:(k:Int)<(l.length:Int):=by omega
      have HKL:=ι hkl;obtain ⟨lb,lo,y,rfl,hcy,hy⟩:=rows_at HL.out hkl;have CY:=ι hcy;have YU:=ι hy;obtain ⟨bq,hbq⟩:∃ b,Hid (decide (Ma.ofN x=Ma.ofN (l[k]'hkl))=b):=⟨_,ι rfl⟩;clear hcy hy;go_upto_region 8 with (fail);refine Rg.wl ?_;refine Rg.lW 18 (Rg.xm (.bool false) _ rfl rfl) ?_;go_frame;refine Rg.lW 19 (exec_not _ _ false rfl rfl) ?_;go_frame;refine Rg.lW 20 (Rg.xm (.bool true) _ rfl rfl) ?_;go_frame;refine Rg.lW 21 (Rg.xm (.int .i64 ((k:Nat):Int)) _ rfl rfl) ?_;go_frame;refine Rg.lW 22 (Rg.xm (.slice (some ⟨lb,lo,none⟩) l.length lc) _ rfl rfl) ?_;go_frame;refine Rg.lW 23 (exec_len _ _ _ rfl Tryz.underlying22 _ _ _ rfl) ?_;go_frame;refine Rg.lW 24 (exec_bin (R:=.bool true) .lss _ _ _ rfl rfl rfl (b_lss _ Rg.dT)) ?_;go_frame;refine Rg.lW 25 (exec_pickT (v:=.bool true) _ _ _ rfl rfl rfl) ?_;go_frame;go_upto_region 10 with (fail);have hV0:Below wr.heap.size wr wr.drew:=(Below.refl _ _).drew
      replace RO:=ι (RO.out.below hV0);replace K1:=ι (Rg.acc K1.out hV0);clear hV0;refine Rg.Any.begin (S:=Rg.Both 9 (fun _=>True) (fun W=>Below w1.heap.size w1 W)) mix ?_;generalize wr.drew=w11 at *;have hS:∀ (l:Array Bool) W,Below w1.heap.size w1 W→Rg.Both 9 (fun _=>True) (fun W=>Below w1.heap.size w1 W) l W:=fun l W h=>⟨.inr trivial,h⟩;have hI:=K1.out;refine Rg.tm 0 9 (.slice (some ⟨g,0,none⟩) E.length ac) 28 (hS _ _ hI) ?_;go_frame;refine Rg.tm 1 9 (.int .i64 ((i:Nat):Int)) 29 (hS _ _ hI) ?_;go_frame;refine Rg.tg 2 9 (.pointer (some ⟨g,0+i,none⟩)) 30 rfl rfl (Rg.yields_index slPerms _ _ rfl rfl g (0) (E.length) ac (i) rfl rfl HIN.out) (hS _ _ hI) ?_;go_frame;refine Rg.tg 3 9 (u) 31 rfl rfl (Rg.yields_cell _ _ rfl rfl ⟨g,0+i,none⟩ rfl (fun W hW=>Rg.run_loadSl _ _ Tryz.underlying51 ((Below.cell (p:=⟨g,0+i,none⟩) hW CA.out.lt).trans CA.out.cell))) (hS _ _ hI) ?_;go_frame
      refine Rg.tm 4 9 (.slice (some ⟨lb,lo,none⟩) l.length lc) 32 (hS _ _ hI) ?_;go_frame;refine Rg.tm 5 9 (.int .i64 ((k:Nat):Int)) 33 (hS _ _ hI) ?_;go_frame;refine Rg.tg 6 9 (.pointer (some ⟨lb,lo+k,none⟩)) 34 rfl rfl (Rg.yields_index slPerms _ _ rfl rfl lb (lo) (l.length) lc (k) rfl rfl HKL.out) (hS _ _ hI) ?_;go_frame;refine Rg.tg 7 9 (y) 35 rfl rfl (Rg.yields_cell _ _ rfl rfl ⟨lb,lo+k,none⟩ rfl (fun W hW=>Rg.run_loadSl _ _ Tryz.underlying51 ((Below.cell (p:=⟨lb,lo+k,none⟩) hW CY.out.lt).trans CY.out.cell))) (hS _ _ hI) ?_;go_frame;refine Rg.Any.one (i:=8) (by kernel_rfl) (Rg.Any.ask (some 36) rfl rfl rfl _ _ (exec_fn 33 _ _ _ rfl rfl rfl (Wkcl1 _ _)) ?_);refine (Same_any (XU.out.below hI) (YU.out.below hI) hbq (Below.refl _ _)).mono ?_;rintro e1 w12 ⟨rfl,hb⟩;have hI2_0:=Rg.acc hI hb;have hI2_1:=hb;clear hb hI;refine ⟨_,rfl,(hS _ _ hI2_0),?_⟩;go_frame
      refine Rg.Any.one (i:=9) (by kernel_rfl) (Rg.Any.run (some 8) rfl rfl rfl (Rg.xa (.bool bq) _ rfl rfl) (hS _ _ hI2_0) ?_);go_frame;refine Rg.Any.done (by kernel_rfl) ?_ _;replace RO:=ι (RO.out.below hI2_1);replace K1:=ι hI2_0;clear hS hI2_0 hI2_1;have HB2:=ι (show bq=decide (x∈l.take (k+1)) by rw [mem_take_next HKL.out HNM.out,hbq.out]);go_wp2
      go_roundw
      case rel=>exact ⟨bq,k+1,rfl,by go_num,HKL.out,HB2,RO,K1⟩
      case measure=>simp [intOf]; have:=HKL.out; omega
     ·obtain rfl:k=l.length:=by omega
      have HNM2:=ι (show E[i]'HIN.out∉l by
       have:=HNM.out;rw [hx.out]
       rwa [List.take_length] at this)
      have HPL:=ι (Nat.lt_of_le_of_lt (freshP_le E l i) HEN.out);go_upto_region 8 with (fail);refine Rg.wl ?_;refine Rg.lW 18 (Rg.xm (.bool false) _ rfl rfl) ?_;go_frame;refine Rg.lW 19 (exec_not _ _ false rfl rfl) ?_;go_frame;refine Rg.lW 20 (Rg.xm (.bool true) _ rfl rfl) ?_;go_frame;refine Rg.lW 21 (Rg.xm (.int .i64 ((l.length:Nat):Int)) _ rfl rfl) ?_;go_frame;refine Rg.lW 22 (Rg.xm (.slice la l.length lc) _ rfl rfl) ?_;go_frame;refine Rg.lW 23 (exec_len _ _ _ rfl Tryz.underlying22 _ _ _ rfl) ?_;go_frame;refine Rg.lW 24 (exec_bin (R:=.bool false) .lss _ _ _ rfl rfl rfl (b_lss _ Rg.dF)) ?_;go_frame;refine Rg.lW 25 (exec_pickT (v:=.bool false) _ _ _ rfl rfl rfl) ?_;go_frame;go_upto_region 11 with (fail);refine Rg.wl ?_;refine Rg.lm 37 (.bool false) ?_;go_frame;refine Rg.lr 38 (exec_not _ _ false rfl rfl) ?_;go_frame;go_upto_region 12 with (fail);refine Rg.wl ?_;refine Rg.lm 39 (.slice ta (freshP E l i).length tcc) ?_;go_frame
      refine Rg.lm 40 (.slice (some ⟨g,0,none⟩) E.length ac) ?_;go_frame;refine Rg.lm 41 (.int .i64 ((i:Nat):Int)) ?_;go_frame;refine Rg.lr 42 (exec_indexS slPerms _ _ rfl g (0) (E.length) ac (i) rfl rfl HIN.out) ?_;go_frame;refine Rg.lr 43 (Rg.exec_load (v:=u) _ _ rfl ⟨g,0+i,none⟩ rfl (Rg.run_loadSl _ _ Tryz.underlying51 ((Below.cell (p:=⟨g,0+i,none⟩) K1.out CA.out.lt).trans CA.out.cell))) ?_;go_frame;refine Rg.lr 44 (Rg.exec_buildSlice _ _ _ rfl (u) rfl (run_build1P wr _ (by obtain ⟨_,a,cc,_,e,_⟩:=UP.out.np.len; exact ⟨a,_,cc,e⟩))) ?_;go_frame;obtain ⟨a9,c9,X9,r1,r2,r3⟩:=RO.out.push HFW.out (UP.out.below K1.out) (by obtain ⟨_,a,cc,_,e,_⟩:=UP.out.np.len; exact ⟨a,_,cc,e⟩) HPL.out 22;refine Rg.lr 45 (Rg.exec_append _ _ _ rfl rfl rfl r1) ?_;go_frame;refine Rg.la 5 (.slice a9 ((freshP E l i).length+1) c9) ?_;go_frame;have HE:=ι (freshP_yes HIN.out HNM2.out)
      have RO2:=ι r2;have K2:=ι (r3 (Nat.le_refl _) K1.out);clear r1 r2 r3;go_wp2
      go_roundw
      case rel=>exact ⟨i+1,by go_num,HIN.out,by rw [HE.out,hx.out]; exact RO2,K2⟩
      case measure=>simp [intOf]; have:=HIN.out; omega
  ·obtain rfl:i=E.length:=by omega
   have hiN:¬ (E.length:Int)<(E.length:Int):=by omega
   have RO2:=ι (show RowF F w1.heap.size wr _ (freshL n tr l) by have:=RO.out; rw [← freshP_all,hE.out]; exact this);have KF2:=ι (KB.out.trans (K1.out.mono KB.out.size));go_wp2;go_ret;exact (show FrPost _ _ _ _ _ from ⟨_,_,rfl,KB.out.size,RO2.out,KF2.out⟩)
end Go.Proofs.YthehbckogieimaaGreat

namespace Go.Proofs.YthehbckogieimaaGreat
open Go.RowKit
open Go.Proofs
open Go.Proofs.Cm (Tr TabOk)
attribute [local irreducible] Go.Calls Go.wpList
theorem Wlcl2 (args:Array Value) (w:World):(callFunc 198 args).run Tryz.prog w=.ok (.enter 198 args) w:=by kernel_rfl
theorem Wlcl3 (args:Array Value) (w:World):(callFunc 267 args).run Tryz.prog w=.ok (.enter 267 args) w:=by kernel_rfl
theorem RowF.mono {F F':Nat→Prop} {B:Nat} {W:World} {v:Value} {l:List (List Nat)} (h:RowF F B W v l) (hF:∀ k,F k→F' k):RowF F' B W v l:=by
 obtain ⟨us,h1,h2⟩:=h.own;exact ⟨h.size,us,h1,h2.mono hF⟩
theorem RowG.rows {F M:Nat→Prop} {W:World} {v:Value} {l:List (List Nat)} (h:RowG F M W v l) (hl:l.length≤1000000000):Rg.Rows W v (l.map Ma.ofN):=by
 obtain ⟨B,us,h0,h1,h2⟩:=h.own;have e:us.length=(l.map Ma.ofN).length:=h2.1;exact Rg.Rows.of_row h1 hl e fun i a b=>(h2.2 i a b).ints
def PP (n:Nat) (tr:Tr) (l:List (List Nat)) (i k m:Nat):Prop:=(∀ a b,a<i→b<i→PrS n tr l a b)∧(∀ b,b<k→PrS n tr l i b∧PrS n tr l b i)∧(0<m→PrS n tr l i k)∧(1<m→PrS n tr l k i)
theorem PP.start {n:Nat} {tr:Tr} {l:List (List Nat)}:PP n tr l 0 0 0:=⟨fun _ _ h=>absurd h (Nat.not_lt_zero _),fun _ h=>absurd h (Nat.not_lt_zero _),fun h=>absurd h (Nat.lt_irrefl _),fun h=>absurd h (by decide)⟩
theorem PP.more {n:Nat} {tr tr':Tr} {l m':List (List Nat)} {i k m:Nat} (h:PP n tr l i k m) (hi:i<l.length) (hk:k≤i) (hm:∀ i p u,Cm.idT n tr i p=some u→Cm.idT n tr' i p=some u):PP n tr' (l++m') i k m :=
 ⟨fun a b ha hb=>(h.1 a b ha hb).more (by omega) (by omega) hm,fun b hb=>⟨(h.2.1 b hb).1.more hi (by omega) hm,(h.2.1 b hb).2.more (by omega) hi hm⟩,fun e=>(h.2.2.1 e).more hi (by omega) hm,fun e=>(h.2.2.2 e).more (by omega) hi hm⟩
theorem PP.step0 {n:Nat} {tr:Tr} {l:List (List Nat)} {i k:Nat} (h:PP n tr l i k 0) (hp:PrS n tr l i k):PP n tr l i k 1:=⟨h.1,h.2.1,fun _=>hp,fun e=>absurd e (by decide)⟩
theorem PP.step1 {n:Nat} {tr:Tr} {l:List (List Nat)} {i k:Nat} (h:PP n tr l i k 1) (hp:PrS n tr l k i):PP n tr l i k 2:=⟨h.1,h.2.1,fun _=>h.2.2.1 (by decide),fun _=>hp⟩
theorem PP.next {n:Nat} {tr:Tr} {l:List (List Nat)} {i k:Nat} (h:PP n tr l i k 2):PP n tr l i (k+1) 0 :=
 ⟨h.1,fun b hb=>by
  by_cases e:b=k
  ·subst e; exact ⟨h.2.2.1 (by decide),h.2.2.2 (by decide)⟩
  ·exact h.2.1 b (by omega),fun e=>absurd e (by decide),fun e=>absurd e (by decide)⟩
theorem PP.row {n:Nat} {tr:Tr} {l:List (List Nat)} {i:Nat} (h:PP n tr l i (i+1) 0):PP n tr l (i+1) 0 0 :=
 ⟨fun a b ha hb=>by
  by_cases e:a=i
  ·subst e; exact (h.2.1 b hb).1
  ·by_cases e2:b=i
   ·subst e2; exact (h.2.1 a ha).2
   ·exact h.1 a b (by omega) (by omega),fun _ e=>absurd e (by omega),fun e=>absurd e (by decide),fun e=>absurd e (by decide)⟩
theorem getD_li {l:List (List Nat)} {i:Nat} (h:i<l.length):l.getD i []=l[i]:=by rw [List.getD_eq_getElem?_getD,List.getElem?_eq_getElem h]; rfl
theorem ents_le {n:Nat} (hn2:n≤64) (tr:Tr):(ents n tr).length≤4096:=by
 have h1:=entP_len n tr n 0;rw [entP_all] at h1;have h2:n*n≤64*64:=Nat.mul_le_mul hn2 hn2;omega
theorem LE.le {n:Nat} (hn2:n≤64) {gs:List Nat→Prop} {tr:Tr} {l:List (List Nat)} (h:LE n gs tr l):l.length≤4096:=by
 have h1:=h.len;have h2:n*n≤64*64:=Nat.mul_le_mul hn2 hn2;omega
def ClPost (F0:Nat→Prop) (w:World) (tb tf n:Nat) (gs:List Nat→Prop) (Rb:Nat→Nat) (e:Ending) (w':World):Prop:=∃ F' V' tr',e=.returned (.tuple #[])∧KG F0 w F' w'∧TabAt F' tb tf n w' tr' Rb V'∧TabOk n gs tr'∧Cm.IsTr n (Cm.Gr n gs) (Cm.idT n tr')
theorem rclose_any {n:Nat} (hn1:1≤n) (hn2:n≤64) {F0:Nat→Prop} {tb tf tc:Nat} {w:World} {tr0:Tr} {Rb:Nat→Nat} {V:Nat→Nat→Value} (hT:TabAt F0 tb tf n w tr0 Rb V) {gs:List Nat→Prop} (hg:∀ s,gs s→Cm.Gd n s) (hok:TabOk n gs tr0) (hgs:∀ s,gs s→Cm.Sd n (Cm.idT n tr0) n s) :
  Calls Tryz.prog 199 #[.slice (some ⟨tb,tf,none⟩) n tc] w (ClPost F0 w tb tf n gs Rb):=by
 have HT:=ι hT;have HG:=ι hg;have LE0:=ι (LE.start hok hgs);have HRM:=ι (show ∀ k,RbM n Rb k→k<w.heap.size from fun k hk=>by obtain ⟨i,hi,rfl⟩:=hk; exact hT.lt hi);have K:=ι (KG.refl hT.Flt);clear hT hg hok hgs
 go_enter Tryz.func199,Tryz.ntmps199
 go_upto_region 0 with (fail);refine Rg.wl ?_;refine Rg.lm 8 (.slice (some ⟨tb,tf,none⟩) n tc) ?_;go_frame;refine Rg.lk 9 (exec_fn1 266 _ _ rfl rfl (Wkcl0 _ _)) ?_;refine (entries_any hn1 hn2 HT.out (fun i p u e=>tab_gd LE0.out.ok e)).mono ?_;rintro e1 w1 ⟨av,rfl,hav,hb⟩;replace K:=ι (K.out.kf' (KF.of_below hb));have RW:=ι (hav.g (M:=RbM n Rb) HT.out.Flt HRM.out);clear hav;refine ⟨_,rfl,?_⟩;go_frame;replace HT:=ι (HT.out.below hb);clear hb;refine Rg.la 2 (av) ?_;go_frame;have HP:=ι (PP.start (n:=n) (tr:=tr0) (l:=ents n tr0));go_wp2
 go_loopw [2,3] (fun lv iv wr=>∃ (i:Nat) (l:List (List Nat)) (tr:Tr) (F1:Nat→Prop) (V:Nat→Nat→Value),iv=.int .i64 i∧i≤l.length∧Hid (RowG F1 (RbM n Rb) wr lv l)∧Hid (TabAt F1 tb tf n wr tr Rb V)∧Hid (KG F0 w F1 wr)∧Hid (LE n gs tr l)∧Hid (PP n tr l i 0 0)) (fun _ iv _=>4096 - (intOf iv).toNat)
 case atStart=>exact ⟨0,_,_,_,_,rfl,Nat.zero_le _,RW,HT,K,LE0,HP⟩
 case round =>
  clear RW HT K LE0 HP;obtain ⟨i,l,tr,F,V,rfl,hi,RW,HT,K,LE0,HP⟩:=hrel;obtain ⟨ra,rc,hsh⟩:=RW.out.shape;subst hsh;have hll:=LE0.out.le hn2
  by_cases hin:i<l.length
  ·have hiN:(i:Int)<(l.length:Int):=by omega
   have hi4:i<4096:=by omega
   clear hll hi;go_wp2
   go_loopw [2,4] (fun lv kv wr=>∃ (k:Nat) (l:List (List Nat)) (tr:Tr) (F1:Nat→Prop) (V:Nat→Nat→Value),kv=.int .i64 k∧k≤i+1∧i<l.length∧Hid (RowG F1 (RbM n Rb) wr lv l)∧Hid (TabAt F1 tb tf n wr tr Rb V)∧Hid (KG F0 w F1 wr)∧Hid (LE n gs tr l)∧Hid (PP n tr l i k 0)) (fun _ kv _=>i+1 - (intOf kv).toNat)
   case atStart=>exact ⟨0,_,_,_,_,rfl,Nat.zero_le _,hin,RW,HT,K,LE0,HP⟩
   case round =>
    clear RW HT K LE0 HP hin hiN;obtain ⟨k,l,tr,F,V,rfl,hk,hin,RW,HT,K,LE0,HP⟩:=hrel;obtain ⟨ra,rc,hsh⟩:=RW.out.shape;subst hsh
    by_cases hki:k≤i
    ·have hkN:(k:Int)≤(i:Int):=by omega
     go_wp2
     go_loopw [2,5] (fun lv mv wr=>∃ (m:Nat) (l:List (List Nat)) (tr:Tr) (F1:Nat→Prop) (V:Nat→Nat→Value),mv=.int .i64 m∧m≤2∧i<l.length∧Hid (RowG F1 (RbM n Rb) wr lv l)∧Hid (TabAt F1 tb tf n wr tr Rb V)∧Hid (KG F0 w F1 wr)∧Hid (LE n gs tr l)∧Hid (PP n tr l i k m)) (fun _ mv _=>2 - (intOf mv).toNat)
     case atStart=>exact ⟨0,_,_,_,_,rfl,by decide,hin,RW,HT,K,LE0,HP⟩
     case round =>
      clear RW HT K LE0 HP hin;obtain ⟨m,l,tr,F,V,rfl,hm,hin,RW,HT,K,LE0,HP⟩:=hrel;have hll:=LE0.out.le hn2;have HIN:=ι hin;have HKN:=ι (show k<l.length by omega)
      by_cases hm2:m<2
      ·have hmN:(m:Int)<2:=by omega
       obtain ⟨g,c,ua,e1,e2,e3⟩:=RW.out.at HIN.out;subst e1;obtain ⟨g',c',ub,e1',e2',e3'⟩:=RW.out.at HKN.out;simp only [Value.slice.injEq,Option.some.injEq,Addr.mk.injEq,and_true,true_and] at e1';obtain ⟨e1a,e1b⟩:=e1';subst e1a e1b;have CA:=ι e2;have UA:=ι e3;have CB:=ι e2';have UB:=ι e3';have GA:=ι (LE0.out.gr (List.getElem_mem HIN.out));have GB:=ι (LE0.out.gr (List.getElem_mem HKN.out));have HLL:=ι hll;clear e2 e3 e2' e3' hll hin
       by_cases hm0:m=0
       ·subst hm0
        go_upto_region 10 with (fail);have hV0:Below wr.heap.size wr wr.drew:=(Below.refl _ _).drew;replace RW:=ι (RW.out.up hV0);replace HT:=ι (HT.out.up hV0);replace CA:=ι (CA.out.up hV0);replace CB:=ι (CB.out.up hV0);replace UA:=ι (UA.out.up hV0);replace UB:=ι (UB.out.up hV0);replace K:=ι (K.out.up hV0);generalize Fup F wr wr.drew=F1 at *;clear hV0;refine Rg.Any.begin (S:=Rg.Both 9 (fun _=>True) (fun W=>Below wr.drew.heap.size wr.drew W)) mix ?_;generalize wr.drew=w1 at *;have hS:∀ (l:Array Bool) W,Below w1.heap.size w1 W→Rg.Both 9 (fun _=>True) (fun W=>Below w1.heap.size w1 W) l W:=fun l W h=>⟨.inr trivial,h⟩;have hI:Below w1.heap.size w1 w1:=Below.refl _ _;refine Rg.tm 0 9 (.slice (some ⟨g,0,none⟩) l.length c) 25 (hS _ _ hI) ?_;go_frame;refine Rg.tm 1 9 (.int .i64 ((i:Nat):Int)) 26 (hS _ _ hI) ?_;go_frame;refine Rg.tg 2 9 (.pointer (some ⟨g,0+i,none⟩)) 27 rfl rfl (Rg.yields_index slPerms _ _ rfl rfl g (0) (l.length) c (i) rfl rfl HIN.out) (hS _ _ hI) ?_;go_frame
        refine Rg.tg 3 9 (ua) 28 rfl rfl (Rg.yields_cell _ _ rfl rfl ⟨g,0+i,none⟩ rfl (fun W hW=>Rg.run_loadSl _ _ Tryz.underlying51 ((Below.cell (p:=⟨g,0+i,none⟩) hW CA.out.lt).trans CA.out.cell))) (hS _ _ hI) ?_;go_frame;refine Rg.tm 4 9 (.slice (some ⟨g,0,none⟩) l.length c) 29 (hS _ _ hI) ?_;go_frame;refine Rg.tm 5 9 (.int .i64 ((k:Nat):Int)) 30 (hS _ _ hI) ?_;go_frame;refine Rg.tg 6 9 (.pointer (some ⟨g,0+k,none⟩)) 31 rfl rfl (Rg.yields_index slPerms _ _ rfl rfl g (0) (l.length) c (k) rfl rfl HKN.out) (hS _ _ hI) ?_;go_frame;refine Rg.tg 7 9 (ub) 32 rfl rfl (Rg.yields_cell _ _ rfl rfl ⟨g,0+k,none⟩ rfl (fun W hW=>Rg.run_loadSl _ _ Tryz.underlying51 ((Below.cell (p:=⟨g,0+k,none⟩) hW CB.out.lt).trans CB.out.cell))) (hS _ _ hI) ?_;go_frame;refine Rg.Any.one (i:=8) (by kernel_rfl) (Rg.Any.ask (some 33) rfl rfl rfl _ _ (exec_fn 72 _ _ _ rfl rfl rfl (Wfcl1 _ _)) ?_)
        refine (kMul_f UA.out UB.out GA.out.2 GB.out.2 hn2).mono ?_;rintro e1 w2 ⟨mv,rfl,hmv,hb⟩;have hI2_u:=Rg.acc hI hb;clear hI;replace RW:=ι (RW.out.up hb);replace HT:=ι (HT.out.up hb);replace CA:=ι (CA.out.up hb);replace CB:=ι (CB.out.up hb);replace UA:=ι (UA.out.up hb);replace UB:=ι (UB.out.up hb);replace K:=ι (K.out.up hb);have XV:=ι hmv;generalize Fup F1 w1 w2=F2 at *;clear hb;refine ⟨_,rfl,(hS _ _ hI2_u),?_⟩;go_frame;refine Rg.Any.one (i:=9) (by kernel_rfl) (Rg.Any.run (some 6) rfl rfl rfl (Rg.xa (mv) _ rfl rfl) (hS _ _ hI2_u) ?_);go_frame;refine Rg.Any.done (by kernel_rfl) ?_ _;clear hS hI2_u;clear hmv;go_upto_region 11 with (fail);refine Rg.wl ?_;refine Rg.lm 34 (.int .i64 ((0:Nat):Int)) ?_;go_frame;refine Rg.lr 35 (exec_bin (R:=.bool false) .eql _ _ _ rfl rfl rfl (b_eql _ Rg.dF)) ?_;go_frame;obtain ⟨x,hx⟩:∃ x,Hid (Ma.mulN (l[i]'HIN.out) (l[k]'HKN.out)=x):=⟨_,ι rfl⟩
        rw [hx.out] at XV
        have hgx:Cm.Gr n gs x:=by rw [← hx.out]; exact .mul _ _ GA.out.1 GB.out.1
        have GX:=ι (show Cm.Gd n x by rw [← hx.out]; exact Cm.gd_mul GA.out.2 GB.out.2);have hins:=tab_ins HG.out LE0.out.ok hgx;go_upto_region 13 with (fail);refine Rg.wl ?_;refine Rg.lm 45 (.slice (some ⟨tb,tf,none⟩) n tc) ?_;go_frame;refine Rg.lk 46 (exec_fn1 266 _ _ rfl rfl (Wkcl0 _ _)) ?_;refine (entries_any hn1 hn2 HT.out (fun i p u e=>tab_gd LE0.out.ok e)).mono ?_;rintro e1 w3 ⟨av,rfl,hav,hb⟩;obtain ⟨aa,ac,rfl⟩:=hav.shape;clear hav;refine ⟨_,rfl,?_⟩;go_frame;replace RW:=ι (RW.out.up hb);replace HT:=ι (HT.out.up hb);replace CA:=ι (CA.out.up hb);replace CB:=ι (CB.out.up hb);replace UA:=ι (UA.out.up hb);replace UB:=ι (UB.out.up hb);replace XV:=ι (XV.out.up hb);replace K:=ι (K.out.up hb);generalize Fup F2 w2 w3=F3 at *;clear hb;refine Rg.lr 47 (exec_len _ _ _ rfl Tryz.underlying22 _ _ _ rfl) ?_;go_frame;refine Rg.la 7 (.int .i64 (((ents n tr).length:Nat):Int)) ?_;go_frame
        go_upto_region 14 with (fail);refine Rg.wl ?_;refine Rg.lm 48 (.slice (some ⟨tb,tf,none⟩) n tc) ?_;go_frame;refine Rg.lm 49 (mv) ?_;go_frame;refine Rg.lk 50 (exec_fn 198 _ _ _ rfl rfl rfl (Wlcl2 _ _)) ?_;refine (insert_any hn1 hn2 HT.out LE0.out.ok.rp XV.out GX.out).mono ?_;rintro e1 w4 ⟨F9,V9,rfl,hki,htab⟩;have hkg:=hki.kg;have hrw2:=RW.out.ki hki;refine ⟨_,rfl,?_⟩;go_frame;clear HT;clear CA;clear CB;clear UA;clear UB;replace RW:=ι hrw2;replace XV:=ι (XV.out.kg hkg);replace K:=ι (K.out.trans hkg);have HT:=ι htab;clear hkg hrw2;clear hki htab;generalize insT n tr (Cm.sfP n (Cm.idT n tr) n x)=tr2 at *;have OK2:=ι hins.1;have EX2:=ι hins.2.1;have SD2:=ι hins.2.2.1;have SM2:=ι hins.2.2.2;clear hins hgx;have HE1:=ι (ents_le hn2 tr);have HE2:=ι (ents_le hn2 tr2)
        by_cases hgr:(ents n tr).length<(ents n tr2).length
        ·have hgrN:((ents n tr).length:Int)<((ents n tr2).length:Int):=by omega
         go_upto_region 15 with (fail);refine Rg.wl ?_;refine Rg.lm 51 (.slice (some ⟨tb,tf,none⟩) n tc) ?_;go_frame;refine Rg.lk 52 (exec_fn1 266 _ _ rfl rfl (Wkcl0 _ _)) ?_;refine (entries_any hn1 hn2 HT.out (fun i p u e=>tab_gd OK2.out e)).mono ?_;rintro e1 w5 ⟨av,rfl,hav,hb⟩;obtain ⟨aa2,ac2,rfl⟩:=hav.shape;clear hav;refine ⟨_,rfl,?_⟩;go_frame;replace RW:=ι (RW.out.up hb);replace XV:=ι (XV.out.up hb);replace HT:=ι (HT.out.up hb);replace K:=ι (K.out.up hb);generalize Fup F9 w4 w5=F4 at *;clear hb;refine Rg.lr 53 (exec_len _ _ _ rfl Tryz.underlying22 _ _ _ rfl) ?_;go_frame;refine Rg.lm 54 (.int .i64 (((ents n tr).length:Nat):Int)) ?_;go_frame;refine Rg.lr 55 (exec_bin (R:=.bool true) .gtr _ _ _ rfl rfl rfl (b_gtr _ Rg.dT)) ?_;go_frame;go_upto_region 16 with (fail);refine Rg.wl ?_;refine Rg.lm 56 (.slice (some ⟨g,0,none⟩) l.length c) ?_;go_frame;refine Rg.lm 57 (.slice (some ⟨tb,tf,none⟩) n tc) ?_;go_frame
         refine Rg.lm 58 (.slice (some ⟨g,0,none⟩) l.length c) ?_;go_frame;refine Rg.lk 59 (exec_fn 267 _ _ _ rfl rfl rfl (Wlcl3 _ _)) ?_;refine (fresh_any hn1 hn2 HT.out (fun i p u e=>tab_gd OK2.out e) (RW.out.rows (by have:=HLL.out; omega))).mono ?_;rintro e1 w6 ⟨fv,B9,rfl,hB9,hfr,hb⟩;refine ⟨_,rfl,?_⟩;go_frame;replace RW:=ι (RW.out.up hb);replace XV:=ι (XV.out.up hb);replace HT:=ι (HT.out.up hb);replace K:=ι (K.out.up hb);have RF:=ι (hfr.mono (fun _ h=>Or.inl h):RowF (Fup F4 w5 w6) _ _ _ _);generalize Fup F4 w5 w6=F5 at *;clear hb;clear hfr;have hfl:(freshL n tr2 l).length≤4096:=Nat.le_trans (List.length_filter_le _ _) HE2.out;obtain ⟨a9,c9,X9,r1,r2,r3⟩:=RW.out.app RF.out HT.out.Flt (fun k hk=>by obtain ⟨i,hi,rfl⟩:=hk; exact HT.out.lt hi) (by have:=HLL.out; omega) 22;refine Rg.lr 60 (Rg.exec_append _ _ _ rfl rfl rfl r1) ?_;go_frame;refine Rg.la 2 (.slice a9 (l.length+(freshL n tr2 l).length) c9) ?_;go_frame
         have HT2:=ι (HT.out.kp r3 (fun k hF e=>(RW.out.off k e).1 hF) (fun i hi e=>(RW.out.off _ e).2 ⟨i,hi,rfl⟩));have K2:=ι (K.out.kf' (Rg.Kp.weak r3 (fun k e hF=>(RW.out.off k e).1 hF)));have RW2:=ι r2;have LE2:=ι (LE0.out.more OK2.out EX2.out)
         have PP2:=ι ((HP.out.more (m':=freshL n tr2 l) HIN.out hki EX2.out).step0 (by
          unfold PrS;rw [getD_app HIN.out,getD_app HKN.out,getD_li HIN.out,getD_li HKN.out,hx.out]
          exact SD2.out))
         have HIN2:=ι (show i<(l++freshL n tr2 l).length by rw [List.length_append]; have:=HIN.out; omega);clear r1 r2 r3;go_wp2
         go_roundw
         case rel=>exact ⟨1,_,_,_,_,by go_num,by decide,HIN2.out,RW2,HT2,K2,LE2,PP2⟩
         case measure=>simp [intOf]
        ·have hgrN:¬ ((ents n tr).length:Int)<((ents n tr2).length:Int):=by omega
         have hee:=SM2.out (by omega);go_upto_region 15 with (fail);refine Rg.wl ?_;refine Rg.lm 51 (.slice (some ⟨tb,tf,none⟩) n tc) ?_;go_frame;refine Rg.lk 52 (exec_fn1 266 _ _ rfl rfl (Wkcl0 _ _)) ?_;refine (entries_any hn1 hn2 HT.out (fun i p u e=>tab_gd OK2.out e)).mono ?_;rintro e1 w5 ⟨av,rfl,hav,hb⟩;obtain ⟨aa2,ac2,rfl⟩:=hav.shape;clear hav;refine ⟨_,rfl,?_⟩;go_frame;replace RW:=ι (RW.out.up hb);replace XV:=ι (XV.out.up hb);replace HT:=ι (HT.out.up hb);replace K:=ι (K.out.up hb);generalize Fup F9 w4 w5=F4 at *;clear hb;refine Rg.lr 53 (exec_len _ _ _ rfl Tryz.underlying22 _ _ _ rfl) ?_;go_frame;refine Rg.lm 54 (.int .i64 (((ents n tr).length:Nat):Int)) ?_;go_frame;refine Rg.lr 55 (exec_bin (R:=.bool false) .gtr _ _ _ rfl rfl rfl (b_gtr _ Rg.dF)) ?_;go_frame;have HT2:=ι (show TabAt F4 tb tf n w5 tr Rb _ by have:=HT.out; rw [hee] at this; exact this)
         have PP2:=ι (HP.out.step0 (by
          unfold PrS;rw [getD_li HIN.out,getD_li HKN.out,hx.out,← hee]
          exact SD2.out))
         go_wp2
         go_roundw
         case rel=>exact ⟨1,_,_,_,_,by go_num,by decide,HIN.out,RW,HT2,K,LE0,PP2⟩
         case measure=>simp [intOf]
       ·obtain rfl:m=1:=by omega
        clear hm0;go_upto_region 10 with (fail);have hV0:Below wr.heap.size wr wr.drew:=(Below.refl _ _).drew;replace RW:=ι (RW.out.up hV0);replace HT:=ι (HT.out.up hV0);replace CA:=ι (CA.out.up hV0);replace CB:=ι (CB.out.up hV0);replace UA:=ι (UA.out.up hV0);replace UB:=ι (UB.out.up hV0);replace K:=ι (K.out.up hV0);generalize Fup F wr wr.drew=F1 at *;clear hV0;refine Rg.Any.begin (S:=Rg.Both 9 (fun _=>True) (fun W=>Below wr.drew.heap.size wr.drew W)) mix ?_;generalize wr.drew=w1 at *;have hS:∀ (l:Array Bool) W,Below w1.heap.size w1 W→Rg.Both 9 (fun _=>True) (fun W=>Below w1.heap.size w1 W) l W:=fun l W h=>⟨.inr trivial,h⟩;have hI:Below w1.heap.size w1 w1:=Below.refl _ _;refine Rg.tm 0 9 (.slice (some ⟨g,0,none⟩) l.length c) 25 (hS _ _ hI) ?_;go_frame;refine Rg.tm 1 9 (.int .i64 ((i:Nat):Int)) 26 (hS _ _ hI) ?_;go_frame;refine Rg.tg 2 9 (.pointer (some ⟨g,0+i,none⟩)) 27 rfl rfl (Rg.yields_index slPerms _ _ rfl rfl g (0) (l.length) c (i) rfl rfl HIN.out) (hS _ _ hI) ?_;go_frame
        refine Rg.tg 3 9 (ua) 28 rfl rfl (Rg.yields_cell _ _ rfl rfl ⟨g,0+i,none⟩ rfl (fun W hW=>Rg.run_loadSl _ _ Tryz.underlying51 ((Below.cell (p:=⟨g,0+i,none⟩) hW CA.out.lt).trans CA.out.cell))) (hS _ _ hI) ?_;go_frame;refine Rg.tm 4 9 (.slice (some ⟨g,0,none⟩) l.length c) 29 (hS _ _ hI) ?_;go_frame;refine Rg.tm 5 9 (.int .i64 ((k:Nat):Int)) 30 (hS _ _ hI) ?_;go_frame;refine Rg.tg 6 9 (.pointer (some ⟨g,0+k,none⟩)) 31 rfl rfl (Rg.yields_index slPerms _ _ rfl rfl g (0) (l.length) c (k) rfl rfl HKN.out) (hS _ _ hI) ?_;go_frame;refine Rg.tg 7 9 (ub) 32 rfl rfl (Rg.yields_cell _ _ rfl rfl ⟨g,0+k,none⟩ rfl (fun W hW=>Rg.run_loadSl _ _ Tryz.underlying51 ((Below.cell (p:=⟨g,0+k,none⟩) hW CB.out.lt).trans CB.out.cell))) (hS _ _ hI) ?_;go_frame;refine Rg.Any.one (i:=8) (by kernel_rfl) (Rg.Any.ask (some 33) rfl rfl rfl _ _ (exec_fn 72 _ _ _ rfl rfl rfl (Wfcl1 _ _)) ?_)
        refine (kMul_f UA.out UB.out GA.out.2 GB.out.2 hn2).mono ?_;rintro e1 w2 ⟨mv,rfl,hmv,hb⟩;have hI3_u:=Rg.acc hI hb;clear hI;replace RW:=ι (RW.out.up hb);replace HT:=ι (HT.out.up hb);replace CA:=ι (CA.out.up hb);replace CB:=ι (CB.out.up hb);replace UA:=ι (UA.out.up hb);replace UB:=ι (UB.out.up hb);replace K:=ι (K.out.up hb);have XV:=ι hmv;generalize Fup F1 w1 w2=F2 at *;clear hb;refine ⟨_,rfl,(hS _ _ hI3_u),?_⟩;go_frame;refine Rg.Any.one (i:=9) (by kernel_rfl) (Rg.Any.run (some 6) rfl rfl rfl (Rg.xa (mv) _ rfl rfl) (hS _ _ hI3_u) ?_);go_frame;refine Rg.Any.done (by kernel_rfl) ?_ _;clear hS hI3_u;clear hmv;go_upto_region 11 with (fail);refine Rg.wl ?_;refine Rg.lm 34 (.int .i64 ((1:Nat):Int)) ?_;go_frame;refine Rg.lr 35 (exec_bin (R:=.bool true) .eql _ _ _ rfl rfl rfl (b_eql _ Rg.dT)) ?_;go_frame;clear XV;go_upto_region 12 with (fail);have hV0:Below w2.heap.size w2 w2.drew:=(Below.refl _ _).drew
        replace RW:=ι (RW.out.up hV0);replace HT:=ι (HT.out.up hV0);replace CA:=ι (CA.out.up hV0);replace CB:=ι (CB.out.up hV0);replace UA:=ι (UA.out.up hV0);replace UB:=ι (UB.out.up hV0);replace K:=ι (K.out.up hV0);generalize Fup F2 w2 w2.drew=F3 at *;clear hV0;refine Rg.Any.begin (S:=Rg.Both 9 (fun _=>True) (fun W=>Below w2.drew.heap.size w2.drew W)) mix ?_;generalize w2.drew=w3 at *;have hS:∀ (l:Array Bool) W,Below w3.heap.size w3 W→Rg.Both 9 (fun _=>True) (fun W=>Below w3.heap.size w3 W) l W:=fun l W h=>⟨.inr trivial,h⟩;have hI:Below w3.heap.size w3 w3:=Below.refl _ _;refine Rg.tm 0 9 (.slice (some ⟨g,0,none⟩) l.length c) 36 (hS _ _ hI) ?_;go_frame;refine Rg.tm 1 9 (.int .i64 ((k:Nat):Int)) 37 (hS _ _ hI) ?_;go_frame;refine Rg.tg 2 9 (.pointer (some ⟨g,0+k,none⟩)) 38 rfl rfl (Rg.yields_index slPerms _ _ rfl rfl g (0) (l.length) c (k) rfl rfl HKN.out) (hS _ _ hI) ?_;go_frame
        refine Rg.tg 3 9 (ub) 39 rfl rfl (Rg.yields_cell _ _ rfl rfl ⟨g,0+k,none⟩ rfl (fun W hW=>Rg.run_loadSl _ _ Tryz.underlying51 ((Below.cell (p:=⟨g,0+k,none⟩) hW CB.out.lt).trans CB.out.cell))) (hS _ _ hI) ?_;go_frame;refine Rg.tm 4 9 (.slice (some ⟨g,0,none⟩) l.length c) 40 (hS _ _ hI) ?_;go_frame;refine Rg.tm 5 9 (.int .i64 ((i:Nat):Int)) 41 (hS _ _ hI) ?_;go_frame;refine Rg.tg 6 9 (.pointer (some ⟨g,0+i,none⟩)) 42 rfl rfl (Rg.yields_index slPerms _ _ rfl rfl g (0) (l.length) c (i) rfl rfl HIN.out) (hS _ _ hI) ?_;go_frame;refine Rg.tg 7 9 (ua) 43 rfl rfl (Rg.yields_cell _ _ rfl rfl ⟨g,0+i,none⟩ rfl (fun W hW=>Rg.run_loadSl _ _ Tryz.underlying51 ((Below.cell (p:=⟨g,0+i,none⟩) hW CA.out.lt).trans CA.out.cell))) (hS _ _ hI) ?_;go_frame;refine Rg.Any.one (i:=8) (by kernel_rfl) (Rg.Any.ask (some 44) rfl rfl rfl _ _ (exec_fn 72 _ _ _ rfl rfl rfl (Wfcl1 _ _)) ?_)
        refine (kMul_f UB.out UA.out GB.out.2 GA.out.2 hn2).mono ?_;rintro e1 w4 ⟨mv2,rfl,hmv,hb⟩;have hI4_u:=Rg.acc hI hb;clear hI;replace RW:=ι (RW.out.up hb);replace HT:=ι (HT.out.up hb);replace CA:=ι (CA.out.up hb);replace CB:=ι (CB.out.up hb);replace UA:=ι (UA.out.up hb);replace UB:=ι (UB.out.up hb);replace K:=ι (K.out.up hb);have XV:=ι hmv;generalize Fup F3 w3 w4=F4 at *;clear hb;refine ⟨_,rfl,(hS _ _ hI4_u),?_⟩;go_frame;refine Rg.Any.one (i:=9) (by kernel_rfl) (Rg.Any.run (some 6) rfl rfl rfl (Rg.xa (mv2) _ rfl rfl) (hS _ _ hI4_u) ?_);go_frame;refine Rg.Any.done (by kernel_rfl) ?_ _;clear hS hI4_u;clear hmv;obtain ⟨x,hx⟩:∃ x,Hid (Ma.mulN (l[k]'HKN.out) (l[i]'HIN.out)=x):=⟨_,ι rfl⟩;rw [hx.out] at XV
        have hgx:Cm.Gr n gs x:=by rw [← hx.out]; exact .mul _ _ GB.out.1 GA.out.1
        have GX:=ι (show Cm.Gd n x by rw [← hx.out]; exact Cm.gd_mul GB.out.2 GA.out.2);have hins:=tab_ins HG.out LE0.out.ok hgx;go_upto_region 13 with (fail);refine Rg.wl ?_;refine Rg.lm 45 (.slice (some ⟨tb,tf,none⟩) n tc) ?_;go_frame;refine Rg.lk 46 (exec_fn1 266 _ _ rfl rfl (Wkcl0 _ _)) ?_;refine (entries_any hn1 hn2 HT.out (fun i p u e=>tab_gd LE0.out.ok e)).mono ?_;rintro e1 w5 ⟨av,rfl,hav,hb⟩;obtain ⟨aa,ac,rfl⟩:=hav.shape;clear hav;refine ⟨_,rfl,?_⟩;go_frame;replace RW:=ι (RW.out.up hb);replace HT:=ι (HT.out.up hb);replace CA:=ι (CA.out.up hb);replace CB:=ι (CB.out.up hb);replace UA:=ι (UA.out.up hb);replace UB:=ι (UB.out.up hb);replace XV:=ι (XV.out.up hb);replace K:=ι (K.out.up hb);generalize Fup F4 w4 w5=F5 at *;clear hb;refine Rg.lr 47 (exec_len _ _ _ rfl Tryz.underlying22 _ _ _ rfl) ?_;go_frame;refine Rg.la 7 (.int .i64 (((ents n tr).length:Nat):Int)) ?_;go_frame
        go_upto_region 14 with (fail);refine Rg.wl ?_;refine Rg.lm 48 (.slice (some ⟨tb,tf,none⟩) n tc) ?_;go_frame;refine Rg.lm 49 (mv2) ?_;go_frame;refine Rg.lk 50 (exec_fn 198 _ _ _ rfl rfl rfl (Wlcl2 _ _)) ?_;refine (insert_any hn1 hn2 HT.out LE0.out.ok.rp XV.out GX.out).mono ?_;rintro e1 w6 ⟨F9,V9,rfl,hki,htab⟩;have hkg:=hki.kg;have hrw2:=RW.out.ki hki;refine ⟨_,rfl,?_⟩;go_frame;clear HT;clear CA;clear CB;clear UA;clear UB;replace RW:=ι hrw2;replace XV:=ι (XV.out.kg hkg);replace K:=ι (K.out.trans hkg);have HT:=ι htab;clear hkg hrw2;clear hki htab;generalize insT n tr (Cm.sfP n (Cm.idT n tr) n x)=tr2 at *;have OK2:=ι hins.1;have EX2:=ι hins.2.1;have SD2:=ι hins.2.2.1;have SM2:=ι hins.2.2.2;clear hins hgx;have HE1:=ι (ents_le hn2 tr);have HE2:=ι (ents_le hn2 tr2)
        by_cases hgr:(ents n tr).length<(ents n tr2).length
        ·have hgrN:((ents n tr).length:Int)<((ents n tr2).length:Int):=by omega
         go_upto_region 15 with (fail);refine Rg.wl ?_;refine Rg.lm 51 (.slice (some ⟨tb,tf,none⟩) n tc) ?_;go_frame;refine Rg.lk 52 (exec_fn1 266 _ _ rfl rfl (Wkcl0 _ _)) ?_;refine (entries_any hn1 hn2 HT.out (fun i p u e=>tab_gd OK2.out e)).mono ?_;rintro e1 w7 ⟨av,rfl,hav,hb⟩;obtain ⟨aa2,ac2,rfl⟩:=hav.shape;clear hav;refine ⟨_,rfl,?_⟩;go_frame;replace RW:=ι (RW.out.up hb);replace XV:=ι (XV.out.up hb);replace HT:=ι (HT.out.up hb);replace K:=ι (K.out.up hb);generalize Fup F9 w6 w7=F6 at *;clear hb;refine Rg.lr 53 (exec_len _ _ _ rfl Tryz.underlying22 _ _ _ rfl) ?_;go_frame;refine Rg.lm 54 (.int .i64 (((ents n tr).length:Nat):Int)) ?_;go_frame;refine Rg.lr 55 (exec_bin (R:=.bool true) .gtr _ _ _ rfl rfl rfl (b_gtr _ Rg.dT)) ?_;go_frame;go_upto_region 16 with (fail);refine Rg.wl ?_;refine Rg.lm 56 (.slice (some ⟨g,0,none⟩) l.length c) ?_;go_frame;refine Rg.lm 57 (.slice (some ⟨tb,tf,none⟩) n tc) ?_;go_frame
         refine Rg.lm 58 (.slice (some ⟨g,0,none⟩) l.length c) ?_;go_frame;refine Rg.lk 59 (exec_fn 267 _ _ _ rfl rfl rfl (Wlcl3 _ _)) ?_;refine (fresh_any hn1 hn2 HT.out (fun i p u e=>tab_gd OK2.out e) (RW.out.rows (by have:=HLL.out; omega))).mono ?_;rintro e1 w8 ⟨fv,B9,rfl,hB9,hfr,hb⟩;refine ⟨_,rfl,?_⟩;go_frame;replace RW:=ι (RW.out.up hb);replace XV:=ι (XV.out.up hb);replace HT:=ι (HT.out.up hb);replace K:=ι (K.out.up hb);have RF:=ι (hfr.mono (fun _ h=>Or.inl h):RowF (Fup F6 w7 w8) _ _ _ _);generalize Fup F6 w7 w8=F7 at *;clear hb;clear hfr;have hfl:(freshL n tr2 l).length≤4096:=Nat.le_trans (List.length_filter_le _ _) HE2.out;obtain ⟨a9,c9,X9,r1,r2,r3⟩:=RW.out.app RF.out HT.out.Flt (fun k hk=>by obtain ⟨i,hi,rfl⟩:=hk; exact HT.out.lt hi) (by have:=HLL.out; omega) 22;refine Rg.lr 60 (Rg.exec_append _ _ _ rfl rfl rfl r1) ?_;go_frame;refine Rg.la 2 (.slice a9 (l.length+(freshL n tr2 l).length) c9) ?_;go_frame
         have HT2:=ι (HT.out.kp r3 (fun k hF e=>(RW.out.off k e).1 hF) (fun i hi e=>(RW.out.off _ e).2 ⟨i,hi,rfl⟩));have K2:=ι (K.out.kf' (Rg.Kp.weak r3 (fun k e hF=>(RW.out.off k e).1 hF)));have RW2:=ι r2;have LE2:=ι (LE0.out.more OK2.out EX2.out)
         have PP2:=ι ((HP.out.more (m':=freshL n tr2 l) HIN.out hki EX2.out).step1 (by
          unfold PrS;rw [getD_app HKN.out,getD_app HIN.out,getD_li HKN.out,getD_li HIN.out,hx.out]
          exact SD2.out))
         have HIN2:=ι (show i<(l++freshL n tr2 l).length by rw [List.length_append]; have:=HIN.out; omega);clear r1 r2 r3;go_wp2
         go_roundw
         case rel=>exact ⟨2,_,_,_,_,by go_num,by decide,HIN2.out,RW2,HT2,K2,LE2,PP2⟩
         case measure=>simp [intOf]
        ·have hgrN:¬ ((ents n tr).length:Int)<((ents n tr2).length:Int):=by omega
         have hee:=SM2.out (by omega);go_upto_region 15 with (fail);refine Rg.wl ?_;refine Rg.lm 51 (.slice (some ⟨tb,tf,none⟩) n tc) ?_;go_frame;refine Rg.lk 52 (exec_fn1 266 _ _ rfl rfl (Wkcl0 _ _)) ?_;refine (entries_any hn1 hn2 HT.out (fun i p u e=>tab_gd OK2.out e)).mono ?_;rintro e1 w7 ⟨av,rfl,hav,hb⟩;obtain ⟨aa2,ac2,rfl⟩:=hav.shape;clear hav;refine ⟨_,rfl,?_⟩;go_frame;replace RW:=ι (RW.out.up hb);replace XV:=ι (XV.out.up hb);replace HT:=ι (HT.out.up hb);replace K:=ι (K.out.up hb);generalize Fup F9 w6 w7=F6 at *;clear hb;refine Rg.lr 53 (exec_len _ _ _ rfl Tryz.underlying22 _ _ _ rfl) ?_;go_frame;refine Rg.lm 54 (.int .i64 (((ents n tr).length:Nat):Int)) ?_;go_frame;refine Rg.lr 55 (exec_bin (R:=.bool false) .gtr _ _ _ rfl rfl rfl (b_gtr _ Rg.dF)) ?_;go_frame;have HT2:=ι (show TabAt F6 tb tf n w7 tr Rb _ by have:=HT.out; rw [hee] at this; exact this)
         have PP2:=ι (HP.out.step1 (by
          unfold PrS;rw [getD_li HKN.out,getD_li HIN.out,hx.out,← hee]
          exact SD2.out))
         go_wp2
         go_roundw
         case rel=>exact ⟨2,_,_,_,_,by go_num,by decide,HIN.out,RW,HT2,K,LE0,PP2⟩
         case measure=>simp [intOf]
      ·obtain rfl:m=2:=by omega
       have hmN:¬ ((2:Nat):Int)<2:=by omega
       have HP2:=ι HP.out.next;clear hll hm hm2;go_wp2
       go_roundw
       case rel=>exact ⟨k+1,_,_,_,_,by go_num,by omega,HIN.out,RW,HT,K,LE0,HP2⟩
       case measure=>simp [intOf]; omega
    ·obtain rfl:k=i+1:=by omega
     have hkN:¬ ((i+1:Nat):Int)≤(i:Int):=by omega
     have HP2:=ι HP.out.row;go_wp2
     go_roundw
     case rel=>exact ⟨i+1,_,_,_,_,by go_num,hin,RW,HT,K,LE0,HP2⟩
     case measure=>simp [intOf]; omega
  ·obtain rfl:i=l.length:=by omega
   have hiN:¬ (l.length:Int)<(l.length:Int):=by omega
   have HTR:=ι (LE0.out.done HG.out HP.out.1);go_wp2;exact bodyPost_ret (results_none rfl _ _ _) rfl (show ClPost _ _ _ _ _ _ _ _ _ from ⟨_,_,_,rfl,K.out,HT.out,LE0.out.ok,HTR.out⟩)

theorem OwI.shape {B:Nat} {W:World} {v:Value} {l:List Int} (h:OwI B W v l):∃ a c,v=.slice a l.length c:=Rg.row_shape h.own
theorem OwI.nil (B:Nat) (W:World):OwI B W (.slice none 0 0) []:=⟨World.ownsRow_nil _ _ _ _⟩
theorem OwI.push {B:Nat} {W:World} {v:Value} {l:List Int} (h:OwI B W v l) (hB:B≤W.heap.size) (x:Int) (hn:l.length<1000000) (ty:TypeId) :
  ∃ a c X,(Builtin.append_ #[36,36] ty #[v,.slice (some ⟨W.heap.size,0,none⟩) 1 1]).run Tryz.prog (W.alloc (.cells #[.int .i64 x] 3))=.ok (.slice a (l.length+1) c) X∧OwI B X (.slice a (l.length+1) c) (l++[x])∧(∀ {B':Nat} {W0:World},B'≤B→Below B' W0 W→Below B' W0 X):=by
 have hb:Below W.heap.size W (W.alloc (.cells #[.int .i64 x] 3)):=(Below.refl _ _).alloc (Nat.le_refl _) _;obtain ⟨v',X,r1,r2,r3,r4,a,c,rfl⟩:=app_run (P:=Tryz.prog) slInts ty (Rg.row_below h.own hb) (Nat.le_trans hB hb.size) W.heap.size 1 (u:=.int .i64 x) (by rw [Rg.cellNew]; rfl) rfl hn;refine ⟨a,c,X,r1,⟨by rw [List.length_append,List.map_append]; exact r2⟩,fun {B' W0} hB' hb0=>?_⟩;exact (hb0.alloc (Nat.le_trans hB' hB) _).grown r3 (Nat.le_trans (Nat.le_trans hB' hB) hb.size) (fun j hj=>Nat.le_trans hB' ((Rg.row_below h.own hb).lt j hj).1)
def orbP (tr:Tr) (i p:Nat):List Nat:=(List.range p).filter fun q=>decide (i≤q) && (q == i || (tr i q).isSome)
def orbL (n:Nat) (tr:Tr) (i:Nat):List Nat:=orbP tr i n
theorem orbP_start (tr:Tr) (i:Nat):orbP tr i i=[]:=by
 unfold orbP;rw [List.filter_eq_nil_iff];intro q hq;have:=List.mem_range.1 hq;simp; omega
theorem orbP_yes {tr:Tr} {i p:Nat} (hi:i≤p) (h:p=i∨(tr i p).isSome=true):orbP tr i (p+1)=orbP tr i p++[p]:=by
 unfold orbP;rw [List.range_succ,List.filter_append]
 have:(decide (i≤p) && (p == i || (tr i p).isSome))=true:=by
  rcases h with h | h
  ·simp [h]
  ·simp [hi,h]
 simp [this]
theorem orbP_no {tr:Tr} {i p:Nat} (h:p≠i) (h2:tr i p=none):orbP tr i (p+1)=orbP tr i p:=by
 unfold orbP;rw [List.range_succ,List.filter_append];simp [h,h2]
theorem orbP_len (tr:Tr) (i p:Nat):(orbP tr i p).length≤p:=by
 unfold orbP
 have:=List.length_filter_le (fun q=>decide (i≤q) && (q == i || (tr i q).isSome)) (List.range p)
 simpa using this
theorem mem_orbP {tr:Tr} {i p q:Nat}:q∈orbP tr i p↔q<p∧i≤q∧(q=i∨(tr i q).isSome=true):=by
 unfold orbP;rw [List.mem_filter,List.mem_range];simp
theorem orbP_asc (tr:Tr) (i p:Nat):(orbP tr i p).Pairwise (· < ·):=List.Pairwise.filter _ List.pairwise_lt_range
theorem ofN_snoc (l:List Nat) (x:Nat):Ma.ofN (l++[x])=Ma.ofN l++[(x:Int)]:=by simp [Ma.ofN]
def OrbPost (w:World) (l:List Nat) (e:Ending) (w':World):Prop:=∃ v,e=.returned v∧OwI w.heap.size w' v (Ma.ofN l)∧Below w.heap.size w w'
theorem orbit_any {n:Nat} (hn1:1≤n) (hn2:n≤64) {F:Nat→Prop} {tb tf tc:Nat} {w:World} {tr:Tr} {Rb:Nat→Nat} {V:Nat→Nat→Value} (hT:TabAt F tb tf n w tr Rb V) (hgd:∀ i p u,tr i p=some u→Cm.Gd n u) {i:Nat} (hi:i<n) :
  Calls Tryz.prog 268 #[.slice (some ⟨tb,tf,none⟩) n tc,.int .i64 ((i:Nat):Int)] w (OrbPost w (orbL n tr i)):=by
 have HT:=ι hT;have HG:=ι hgd;have HIN:=ι hi;have CO:=ι (hT.out i hi);have K:=ι (Below.refl w.heap.size w);have RO:=ι (show OwI w.heap.size w (.slice none 0 0) (Ma.ofN (orbP tr i i)) by rw [orbP_start]; exact OwI.nil _ _)
 have hlen0:(orbP tr i i).length=0:=by rw [orbP_start]; rfl
 clear hT hgd
 go_enter Tryz.func268,Tryz.ntmps268
 go_wp2
 go_loopw [5,6] (fun tv qv wr=>∃ (q:Nat) (a:Option Addr) (c:Nat),qv=.int .i64 q∧tv=.slice a (orbP tr i q).length c∧i≤q∧q≤n∧Hid (OwI w.heap.size wr tv (Ma.ofN (orbP tr i q)))∧Hid (Below w.heap.size w wr)) (fun _ qv _=>n - (intOf qv).toNat)
 case atStart=>exact ⟨i,_,_,rfl,by rw [hlen0],Nat.le_refl _,Nat.le_of_lt HIN.out,RO,K⟩
 case round =>
  clear RO K hlen0;obtain ⟨q,ta,tcc,rfl,rfl,hiq,hq,RO,K⟩:=hrel
  by_cases hqn:q<n
  ·have hqN:(q:Int)<(n:Int):=by omega
   have HQN:=ι hqn;have CE:=ι (CL.mk (show w.cell? ⟨Rb i,0+q,none⟩=some (V i q) by rw [Nat.zero_add]; exact HT.out.cell hi hqn) (HT.out.lt hi));have HPL:=ι (show (Ma.ofN (orbP tr i q)).length<1000000 by rw [Ma.len_ofN]; have:=orbP_len tr i q; omega);have HPE:=ι (Ma.len_ofN (orbP tr i q))
   by_cases hqi:q=i
   ·have hqiN:(q:Int)=(i:Int):=by omega
    have HE:=ι (orbP_yes (tr:=tr) hiq (.inl hqi));go_upto_region 5 with (fail);refine Rg.wl ?_;refine Rg.lm 14 (.int .i64 ((q:Nat):Int)) ?_;go_frame;refine Rg.lm 15 (.int .i64 ((i:Nat):Int)) ?_;go_frame;refine Rg.lr 16 (exec_bin (R:=.bool true) .eql _ _ _ rfl rfl rfl (b_eql _ Rg.dT)) ?_;go_frame;refine Rg.lm 17 (.bool true) ?_;go_frame;refine listW_pass (some 18) (by kernel_rfl) rfl ?_;go_frame;refine listW_pass (some 19) (by kernel_rfl) rfl ?_;go_frame;refine listW_pass (some 20) (by kernel_rfl) rfl ?_;go_frame;refine listW_pass (some 21) (by kernel_rfl) rfl ?_;go_frame;refine listW_pass (some 22) (by kernel_rfl) rfl ?_;go_frame;refine listW_pass (some 23) (by kernel_rfl) rfl ?_;go_frame;refine listW_pass (some 24) (by kernel_rfl) rfl ?_;go_frame;refine listW_pass (some 25) (by kernel_rfl) rfl ?_;go_frame;refine Rg.lr 26 (exec_pickT (v:=.bool true) _ _ _ rfl rfl rfl) ?_;go_frame
    go_upto_region 6 with (fail);refine Rg.wl ?_;refine Rg.lm 27 (.slice ta (orbP tr i q).length tcc) ?_;go_frame;refine Rg.lm 28 (.int .i64 ((q:Nat):Int)) ?_;go_frame;refine Rg.lr 29 (Rg.exec_buildSlice _ _ _ rfl (.int .i64 ((q:Nat):Int)) rfl (run_build1i wr _)) ?_;go_frame;obtain ⟨a9,c9,X9,r1,r2,r3⟩:=RO.out.push K.out.size ((q:Nat):Int) HPL.out 36;rw [HPE.out] at r1 r2;refine Rg.lr 30 (Rg.exec_append _ _ _ rfl rfl rfl r1) ?_;go_frame;refine Rg.la 5 (.slice a9 ((orbP tr i q).length+1) c9) ?_;go_frame;have K2:=ι (r3 (Nat.le_refl _) K.out);have RO2:=ι (show OwI w.heap.size X9 (.slice a9 ((orbP tr i q).length+1) c9) (Ma.ofN (orbP tr i (q+1))) by rw [HE.out,ofN_snoc]; exact r2);have HL2:=ι (show (orbP tr i (q+1)).length=(orbP tr i q).length+1 by rw [HE.out,List.length_append]; rfl);clear r1 r2 r3;go_wp2
    go_roundw
    case rel=>exact ⟨q+1,_,_,by go_num,by rw [HL2.out],by omega,HQN.out,RO2,K2⟩
    case measure=>simp [intOf]; have:=HQN.out; omega
   ·have hqiN:¬ (q:Int)=(i:Int):=by omega
    cases htr:tr i q with
    | none =>
     have hnil:=HT.out.none_ i q hi hqn htr;rw [hnil] at CE;have HE:=ι (orbP_no hqi htr);clear hnil htr;go_upto_region 5 with (fail);refine Rg.wl ?_;refine Rg.lm 14 (.int .i64 ((q:Nat):Int)) ?_;go_frame;refine Rg.lm 15 (.int .i64 ((i:Nat):Int)) ?_;go_frame;refine Rg.lr 16 (exec_bin (R:=.bool false) .eql _ _ _ rfl rfl rfl (b_eql _ Rg.dF)) ?_;go_frame;refine Rg.lm 17 (.bool false) ?_;go_frame;refine Rg.lW 18 (Rg.xm (.slice (some ⟨tb,tf,none⟩) n tc) _ rfl rfl) ?_;go_frame;refine Rg.lW 19 (Rg.xm (.int .i64 ((i:Nat):Int)) _ rfl rfl) ?_;go_frame;refine Rg.lW 20 (exec_indexS slTable _ _ rfl tb (tf) (n) tc (i) rfl rfl HIN.out) ?_;go_frame;refine Rg.lW 21 (Rg.exec_load (v:=.slice (some ⟨(Rb i),0,none⟩) n n) _ _ rfl ⟨tb,tf+i,none⟩ rfl (Rg.run_loadSl _ _ Tryz.underlying22 ((Below.cell (p:=⟨tb,tf+i,none⟩) K.out CO.out.lt).trans CO.out.cell))) ?_;go_frame;refine Rg.lW 22 (Rg.xm (.int .i64 ((q:Nat):Int)) _ rfl rfl) ?_;go_frame
     refine Rg.lW 23 (exec_indexS slPerms _ _ rfl (Rb i) (0) (n) n (q) rfl rfl HQN.out) ?_;go_frame;refine Rg.lW 24 (Rg.exec_load (v:=.slice none 0 0) _ _ rfl ⟨(Rb i),0+q,none⟩ rfl (Rg.run_loadSl _ _ Tryz.underlying51 ((Below.cell (p:=⟨(Rb i),0+q,none⟩) K.out CE.out.lt).trans CE.out.cell))) ?_;go_frame;refine Rg.lW 25 (exec_nilNF _ _ rfl rfl rfl) ?_;go_frame;refine Rg.lr 26 (exec_pickF (v:=.bool false) _ _ _ rfl rfl rfl) ?_;go_frame;have RO2:=ι (show OwI w.heap.size wr (.slice ta (orbP tr i q).length tcc) (Ma.ofN (orbP tr i (q+1))) by rw [HE.out]; exact RO.out);have HL2:=ι (show (orbP tr i (q+1)).length=(orbP tr i q).length by rw [HE.out]);go_wp2
     go_roundw
     case rel=>exact ⟨q+1,_,_,by go_num,by rw [HL2.out],by omega,HQN.out,RO2,K⟩
     case measure=>simp [intOf]; have:=HQN.out; omega
    | some u =>
     have gu:=HG.out i q u htr;have hup:=HT.out.some_ i q u hi hqn htr;obtain ⟨ub,uo,uc,huv⟩:=hup.shape' gu hn1;rw [huv] at CE;have HE:=ι (orbP_yes (tr:=tr) hiq (.inr (by rw [htr]; rfl)));clear gu hup huv htr;go_upto_region 5 with (fail);refine Rg.wl ?_;refine Rg.lm 14 (.int .i64 ((q:Nat):Int)) ?_;go_frame;refine Rg.lm 15 (.int .i64 ((i:Nat):Int)) ?_;go_frame;refine Rg.lr 16 (exec_bin (R:=.bool false) .eql _ _ _ rfl rfl rfl (b_eql _ Rg.dF)) ?_;go_frame;refine Rg.lm 17 (.bool false) ?_;go_frame;refine Rg.lW 18 (Rg.xm (.slice (some ⟨tb,tf,none⟩) n tc) _ rfl rfl) ?_;go_frame;refine Rg.lW 19 (Rg.xm (.int .i64 ((i:Nat):Int)) _ rfl rfl) ?_;go_frame;refine Rg.lW 20 (exec_indexS slTable _ _ rfl tb (tf) (n) tc (i) rfl rfl HIN.out) ?_;go_frame;refine Rg.lW 21 (Rg.exec_load (v:=.slice (some ⟨(Rb i),0,none⟩) n n) _ _ rfl ⟨tb,tf+i,none⟩ rfl (Rg.run_loadSl _ _ Tryz.underlying22 ((Below.cell (p:=⟨tb,tf+i,none⟩) K.out CO.out.lt).trans CO.out.cell))) ?_;go_frame
     refine Rg.lW 22 (Rg.xm (.int .i64 ((q:Nat):Int)) _ rfl rfl) ?_;go_frame;refine Rg.lW 23 (exec_indexS slPerms _ _ rfl (Rb i) (0) (n) n (q) rfl rfl HQN.out) ?_;go_frame;refine Rg.lW 24 (Rg.exec_load (v:=.slice (some ⟨ub,uo,none⟩) n uc) _ _ rfl ⟨(Rb i),0+q,none⟩ rfl (Rg.run_loadSl _ _ Tryz.underlying51 ((Below.cell (p:=⟨(Rb i),0+q,none⟩) K.out CE.out.lt).trans CE.out.cell))) ?_;go_frame;refine Rg.lW 25 (exec_nilNT _ _ rfl rfl rfl) ?_;go_frame;refine Rg.lr 26 (exec_pickF (v:=.bool true) _ _ _ rfl rfl rfl) ?_;go_frame;go_upto_region 6 with (fail);refine Rg.wl ?_;refine Rg.lm 27 (.slice ta (orbP tr i q).length tcc) ?_;go_frame;refine Rg.lm 28 (.int .i64 ((q:Nat):Int)) ?_;go_frame;refine Rg.lr 29 (Rg.exec_buildSlice _ _ _ rfl (.int .i64 ((q:Nat):Int)) rfl (run_build1i wr _)) ?_;go_frame;obtain ⟨a9,c9,X9,r1,r2,r3⟩:=RO.out.push K.out.size ((q:Nat):Int) HPL.out 36
     rw [HPE.out] at r1 r2;refine Rg.lr 30 (Rg.exec_append _ _ _ rfl rfl rfl r1) ?_;go_frame;refine Rg.la 5 (.slice a9 ((orbP tr i q).length+1) c9) ?_;go_frame;have K2:=ι (r3 (Nat.le_refl _) K.out);have RO2:=ι (show OwI w.heap.size X9 (.slice a9 ((orbP tr i q).length+1) c9) (Ma.ofN (orbP tr i (q+1))) by rw [HE.out,ofN_snoc]; exact r2);have HL2:=ι (show (orbP tr i (q+1)).length=(orbP tr i q).length+1 by rw [HE.out,List.length_append]; rfl);clear r1 r2 r3;go_wp2
     go_roundw
     case rel=>exact ⟨q+1,_,_,by go_num,by rw [HL2.out],by omega,HQN.out,RO2,K2⟩
     case measure=>simp [intOf]; have:=HQN.out; omega
  ·obtain rfl:q=n:=by omega
   have hqN:¬ (q:Int)<(q:Int):=by omega
   go_wp2;go_ret;exact (show OrbPost _ _ _ _ from ⟨_,rfl,RO.out,K.out⟩)
end Go.Proofs.YthehbckogieimaaGreat
