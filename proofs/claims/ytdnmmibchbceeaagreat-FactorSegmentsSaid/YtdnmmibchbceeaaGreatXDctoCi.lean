/- Lemmas and contracts on the way to the statement; no condition of their own beyond those written. -/
import Derived.Test.YtdnmmibchbceeaaGreatXBgtoDb
import Derived.Stop.BytesEq
import Derived.MapKept
import Derived.ChangeMaps5
import Derived.WalkSpells
import Derived.WalkLawsBesides
import Derived.Maps.AppendAt
import Derived.OwnWalk
import Derived.OrdersHeld
import Derived.Deep.OwnRows
import Derived.WalkKit
import Derived.Lib.Hide
import Derived.RangeFuncWrites
import Derived.RangeFuncNested
import Derived.RangeFuncBox
import Derived.RangeFuncLeaves
import Derived.Shelf.Abstract
import Derived.OwnWalkIn
import Derived.TacticsInMore
import Derived.LoopNIn
import Derived.LoopIn
import Derived.Sort.CutIn
import Derived.Deep.CutRange
import Derived.Deep.CutBlock
import Derived.IntWalk
import Derived.Great.BuildSlice
import Derived.ArgAppend
import Derived.Laws.CopyOwn
import Derived.StillTailTactics
import Derived.Deep.MidRow
import Derived.Laws.OwnMore
import Derived.Test.YtdnmmibchbceeaaGreatProg
import Derived.Outline
import Derived.Deep.DeepFit
import Derived.BigQuiet
import Derived.Deep.QuietTactic
import Derived.Sort.OwnSortedInts
import Derived.WideMake
import Derived.Shelf.Sort.Plain
import Derived.Lib.ConvBytes
import Derived.ChangeKeysEq
import Derived.Laws.Cells
import Derived.Laws.Rows
import Derived.Laws.Tables
import Derived.Deep.WholeRow
import Derived.OrdersIn
import Derived.TacticsIn
import Derived.Deep.LoopGhost
import Derived.Lib.SlicesSearch
import Derived.Shelf.SlSortCmp.Whole1
import Derived.Ground.SlsfProg
import Derived.Lib.SmallJoins
import Derived.Deep.Matrix
set_option linter.unusedVariables false
set_option linter.unusedSimpArgs false
set_option maxRecDepth 100000
set_option maxHeartbeats 8000000
namespace Go.Proofs.YtdnmmibchbceeaaGreat
open Go.RowKit
open Go.Proofs
open Go.Proofs.Ob
open Go.Proofs.Cm (Gd)
attribute [local irreducible] Go.Calls
structure Gw (F M:Nat→Prop) (w:World) (F' M':Nat→Prop) (w':World):Prop where
 kg:KG F w F' w'
 kp:Rg.Kp M w w'
 nF:∀ k,F' k→F k∨w.heap.size≤k
 nM:∀ k,M' k→M k∨w.heap.size≤k
theorem Gw.refl {F M:Nat→Prop} {w:World} (h:∀ k,F k→k<w.heap.size):Gw F M w F M w:=⟨KG.refl h,Rg.Kp.refl _ _,fun _=>.inl,fun _=>.inl⟩
theorem Gw.trans {F M F' M' F'' M'':Nat→Prop} {w w' w'':World} (h:Gw F M w F' M' w') (h':Gw F' M' w' F'' M'' w''):Gw F M w F'' M'' w'':=by
 have hs:=h.kp.size;refine ⟨h.kg.trans h'.kg,Rg.Kp.trans h.kp h'.kp (fun k hk hm=>?_),fun k hk=>?_,fun k hk=>?_⟩
 ·rcases h.nM k hm with e | e
  ·exact e
  ·omega
 ·rcases h'.nF k hk with e | e
  ·exact h.nF k e
  ·exact .inr (by omega)
 ·rcases h'.nM k hk with e | e
  ·exact h.nM k e
  ·exact .inr (by omega)
theorem Gw.up {F M F' M':Nat→Prop} {w w' w'':World} (h:Gw F M w F' M' w') (hb:Below w'.heap.size w' w''):Gw F M w (Fup F' w' w'') M' w'':=by
 have hs:=h.kp.size;refine ⟨h.kg.up hb,Rg.Kp.trans (M:=M) h.kp (Rg.Kp.of_below (M:=M) hb) (fun _ _ e=>e),fun k hk=>?_,h.nM⟩
 rcases hk with hk | hk
 ·exact h.nF k hk
 ·exact .inr (by omega)
theorem Gw.put {F M M':Nat→Prop} {w w':World} (hF:∀ k,F k→k<w.heap.size∧¬ M k) (hk:Rg.Kp M w w') (hM:∀ k,M' k→M k∨w.heap.size≤k):Gw F M w F M' w' :=
 ⟨(KG.refl fun k h=>(hF k h).1).kf' (hk.weak fun k hm hf=>(hF k hf).2 hm),hk,fun _=>.inl,hM⟩
structure RwI (F M:Nat→Prop) (W:World) (v:Value) (l:List Int):Prop where
 own:∃ B,B≤W.heap.size∧W.ownsRow B 3 1 v l.length (l.map (Value.int .i64))
 off:∀ k,v.ownBlock=some k→¬ F k∧¬ M k∧k<W.heap.size
theorem RwI.gw {F M F' M':Nat→Prop} {w w':World} {v:Value} {l:List Int} (h:RwI F M w v l) (hg:Gw F M w F' M' w'):RwI F' M' w' v l:=by
 obtain ⟨B,h0,h1⟩:=h.own;refine ⟨⟨B,Nat.le_trans h0 hg.kp.size,rowKp h1 hg.kp (fun k hm e=>(h.off k e).2.1 hm)⟩,fun k e=>?_⟩;obtain ⟨a,b,c⟩:=h.off k e;refine ⟨fun hf=>?_,fun hm=>?_,Nat.lt_of_lt_of_le c hg.kp.size⟩
 ·rcases hg.nF k hf with q | q
  ·exact a q
  ·omega
 ·rcases hg.nM k hm with q | q
  ·exact b q
  ·omega
theorem RwI.up {F M:Nat→Prop} {w w':World} {v:Value} {l:List Int} (h:RwI F M w v l) (hb:Below w.heap.size w w'):RwI (Fup F w w') M w' v l:=by
 obtain ⟨B,h0,h1⟩:=h.own;refine ⟨⟨B,Nat.le_trans h0 hb.size,Rg.row_below h1 hb⟩,fun k e=>?_⟩;obtain ⟨a,b,c⟩:=h.off k e;refine ⟨fun hf=>?_,b,Nat.lt_of_lt_of_le c hb.size⟩
 rcases hf with hf | hf
 ·exact a hf
 ·omega
theorem RwI.shape {F M:Nat→Prop} {w:World} {v:Value} {l:List Int} (h:RwI F M w v l):∃ a c,v=.slice a l.length c:=by
 obtain ⟨B,h0,h1⟩:=h.own;exact Rg.row_shape h1
theorem RwI.push {F M:Nat→Prop} {W:World} {v:Value} {l:List Int} (h:RwI F M W v l) (hF:∀ k,F k→k<W.heap.size) (hM:∀ k,M k→k<W.heap.size) (x:Int) (hn:l.length<1000000) (ty:TypeId) :
  ∃ a c X,(Builtin.append_ #[25,25] ty #[v,.slice (some ⟨W.heap.size,0,none⟩) 1 1]).run Tryz.prog (W.alloc (.cells #[.int .i64 x] 3))=.ok (.slice a (l.length+1) c) X∧RwI F M X (.slice a (l.length+1) c) (l++[x])∧Rg.Kp (fun k=>v.ownBlock=some k) W X∧(∀ k,(Value.slice a (l.length+1) c).ownBlock=some k→v.ownBlock=some k∨W.heap.size≤k):=by
 obtain ⟨B,h0,h1⟩:=h.own;have hb:Below W.heap.size W (W.alloc (.cells #[.int .i64 x] 3)):=(Below.refl _ _).alloc (Nat.le_refl _) _
 have e2:(W.alloc (.cells #[.int .i64 x] 3)).heap.size=W.heap.size+1:=by simp
 have c0:(W.alloc (.cells #[.int .i64 x] 3)).cell? ⟨W.heap.size,0,none⟩=some (.int .i64 x):=by rw [Rg.cellNew]; rfl
 have h':=Rg.row_below h1 hb;generalize W.alloc (.cells #[.int .i64 x] 3)=W1 at *;obtain ⟨v',X,r1,r2,r3,r4,a,c,rfl⟩:=app_run (P:=Tryz.prog) slInts ty h' (by omega) W.heap.size 1 (u:=.int .i64 x) c0 rfl hn;have hk:Rg.Kp (fun k=>v.ownBlock=some k) W X:=Rg.Kp.trans (M:=fun k=>v.ownBlock=some k) ((Rg.Kp.of_below hb).weak fun _=>False.elim) (Rg.Kp.of_grown r3 fun _ e=>e) (fun _ _ e=>e)
 refine ⟨a,c,X,r1,⟨⟨B,Nat.le_trans h0 hk.size,by rw [List.length_append,List.map_append]; exact r2⟩,fun k e=>?_⟩,hk,fun k e=>by
  rcases r4 with r4 | r4
  ·exact .inl (by rw [← r4]; exact e)
  ·rw [r4] at e
   injection e with e
   exact .inr (by omega)⟩
 have hlt:=(World.ownsRow.lt r2 k e).2
 rcases r4 with r4 | r4
 ·obtain ⟨q1,q2,_⟩:=h.off k (by rw [← r4]; exact e)
  exact ⟨q1,q2,hlt⟩
 ·rw [r4] at e
  injection e with e
  exact ⟨fun hf=>by have:=hF k hf; omega,fun hm=>by have:=hM k hm; omega,hlt⟩
theorem RwI.ints {F M:Nat→Prop} {w:World} {v:Value} {l:List Int} (h:RwI F M w v l) (hl:l.length≤1000000000):Rg.Ints w v l:=by
 obtain ⟨B,h0,h1⟩:=h.own;exact Rg.Ints.of_row h1 hl
def flat3 (S:List Stp):List Value:=S.flatMap fun s=>[.int .i64 s.1,.int .i64 s.2.1,.int .i64 s.2.2]
theorem flat3_snoc (S:List Stp) (s:Stp):flat3 (S++[s])=flat3 S++[.int .i64 s.1,.int .i64 s.2.1,.int .i64 s.2.2]:=by unfold flat3; rw [List.flatMap_append]; simp
theorem flat3_at (S:List Stp):∀ (i:Nat) (h:i<S.length),(flat3 S)[i*3]?=some (.int .i64 S[i].1)∧(flat3 S)[i*3+1]?=some (.int .i64 S[i].2.1)∧(flat3 S)[i*3+2]?=some (.int .i64 S[i].2.2):=by
 induction S with
 | nil=>intro i h; cases h
 | cons z S ih =>
  intro i h;have e:flat3 (z :: S)=[.int .i64 z.1,.int .i64 z.2.1,.int .i64 z.2.2]++flat3 S:=rfl
  cases i with
  | zero=>rw [e]; exact ⟨rfl,rfl,rfl⟩
  | succ i =>
   have:=ih i (by simpa using h);rw [e,List.getElem?_append_right (by simp; omega),List.getElem?_append_right (by simp; omega),List.getElem?_append_right (by simp; omega)]
   have e1:(i+1)*3 - [Value.int .i64 z.1,.int .i64 z.2.1,.int .i64 z.2.2].length=i*3:=by simp; omega
   have e2:(i+1)*3+1 - [Value.int .i64 z.1,.int .i64 z.2.1,.int .i64 z.2.2].length=i*3+1:=by simp; omega
   have e3:(i+1)*3+2 - [Value.int .i64 z.1,.int .i64 z.2.1,.int .i64 z.2.2].length=i*3+2:=by simp; omega
   rw [e1,e2,e3];exact this
def Own3 (B:Nat) (w:World) (v:Value) (S:List Stp):Prop:=w.ownsRow B 51 3 v S.length (flat3 S)
theorem Own3.nil (B:Nat) (w:World):Own3 B w (.slice none 0 0) []:=World.ownsRow_nil _ _ _ _
theorem Own3.shape {B:Nat} {w:World} {v:Value} {T:List Stp} (h:Own3 B w v T):∃ a c,v=.slice a T.length c∧T.length≤c:=by
 obtain ⟨_,h2⟩:=h
 rcases h2 with ⟨h3,h4⟩ | ⟨g,cap,cur,h3,_,_,h5,_⟩
 ·exact ⟨none,0,by rw [h3,h4],by omega⟩
 ·exact ⟨_,cap,h3,h5⟩
theorem Own3.lt {B:Nat} {w:World} {v:Value} {T:List Stp} (h:Own3 B w v T):∀ k,v.ownBlock=some k→B≤k∧k<w.heap.size:=fun k e=>World.ownsRow.lt h k e
theorem Own3.kp {M:Nat→Prop} {B:Nat} {w w':World} {v:Value} {T:List Stp} (h:Own3 B w v T) (hk:Rg.Kp M w w') (hM:∀ k,M k→v.ownBlock≠some k):Own3 B w' v T:=rowKp h hk hM
theorem Own3.at {B:Nat} {w:World} {v:Value} {T:List Stp} (h:Own3 B w v T) {i:Nat} (hi:i<T.length):∃ g c,v=.slice (some ⟨g,0,none⟩) T.length c∧g<w.heap.size∧w.cell? ⟨g,i*3,none⟩=some (.int .i64 T[i].1)∧w.cell? ⟨g,i*3+1,none⟩=some (.int .i64 T[i].2.1)∧w.cell? ⟨g,i*3+2,none⟩=some (.int .i64 T[i].2.2):=by
 obtain ⟨h1,h2⟩:=h
 rcases h2 with ⟨h3,h4⟩ | ⟨g,cap,cur,h3,hB,hc,h5,h6,h7,h8⟩
 ·omega
 ·have hl:cur.toList.take (T.length*3)=flat3 T:=h8
  obtain ⟨q1,q2,q3⟩:=flat3_at T i hi;refine ⟨g,cap,h3,(Array.getElem?_eq_some_iff.1 hc).1,?_,?_,?_⟩
  ·rw [cell_of_row w _ _ _ _ _ hc,← Array.getElem?_toList,← q1,← hl,List.getElem?_take_of_lt (by omega)]
  ·rw [cell_of_row w _ _ _ _ _ hc,← Array.getElem?_toList,← q2,← hl,List.getElem?_take_of_lt (by omega)]
  ·rw [cell_of_row w _ _ _ _ _ hc,← Array.getElem?_toList,← q3,← hl,List.getElem?_take_of_lt (by omega)]
theorem Own3.sta {B:Nat} {w:World} {v:Value} {T:List Stp} (h:Own3 B w v T):StA w v T:=by
 obtain ⟨a,c,hs,hc⟩:=h.shape;refine ⟨a,c,hs,fun h0=>?_⟩;obtain ⟨g,c',e,hg,_⟩:=h.at h0;rw [hs] at e;simp only [Value.slice.injEq,true_and] at e;obtain ⟨rfl,rfl⟩:=e;refine ⟨g,0,rfl,hg,fun i hi=>?_⟩;obtain ⟨g',c',e,_,h1,h2⟩:=h.at hi;rw [hs] at e;simp only [Value.slice.injEq,Option.some.injEq,Addr.mk.injEq,and_true,true_and] at e;obtain ⟨rfl,rfl⟩:=e;rw [Nat.zero_add];exact ⟨h1,h2⟩
theorem run_build1St (X:World) (a b c:Int):(Instr.buildSlice 36 1 #[(0,.agg #[.int .i64 a,.int .i64 b,.int .i64 c])]).run Tryz.prog X=.ok (.slice (some ⟨X.heap.size,0,none⟩) 1 1) (X.alloc (.cells #[.int .i64 a,.int .i64 b,.int .i64 c] 51)):=by
 obtain ⟨i0,hi,hz0,hz1,hz2⟩:=info_parts infoSt;refine run_buildSlice X 36 51 1 _ _ i0 _ Tryz.underlying36 hi hz0 (by rw [hz1]; decide) (by rw [hz1]; decide) ?_;generalize (fun x=>((Value.agg #[.int .i64 0,.int .i64 0,.int .i64 0]).cells)[x % (Value.agg #[.int .i64 0,.int .i64 0,.int .i64 0]).cells.size]!)=f;rw [hz1];have h1:Array.range (1*3)=#[0,1,2]:=rfl;simp [Instr.fill,Value.cells,h1]
theorem Own3.push {B:Nat} {W:World} {v:Value} {T:List Stp} (h:Own3 B W v T) (hB:B≤W.heap.size) (z:Stp) (hn:T.length<1000000) (ty:TypeId) :
  ∃ a c X,(Builtin.append_ #[36,36] ty #[v,.slice (some ⟨W.heap.size,0,none⟩) 1 1]).run Tryz.prog (W.alloc (.cells #[.int .i64 z.1,.int .i64 z.2.1,.int .i64 z.2.2] 51))=.ok (.slice a (T.length+1) c) X∧Own3 B X (.slice a (T.length+1) c) (T++[z])∧Rg.Kp (fun k=>v.ownBlock=some k) W X∧(∀ k,(Value.slice a (T.length+1) c).ownBlock=some k→v.ownBlock=some k∨W.heap.size≤k):=by
 have hb:Below W.heap.size W (W.alloc (.cells #[.int .i64 z.1,.int .i64 z.2.1,.int .i64 z.2.2] 51)):=(Below.refl _ _).alloc (Nat.le_refl _) _;obtain ⟨i0,hi,hz0,hz1,hz2⟩:=info_parts infoSt;have h':=Rg.row_below h hb
 have e2:(W.alloc (.cells #[.int .i64 z.1,.int .i64 z.2.1,.int .i64 z.2.2] 51)).heap.size=W.heap.size+1:=by simp
 have c0:(W.alloc (.cells #[.int .i64 z.1,.int .i64 z.2.1,.int .i64 z.2.2] 51)).cell? ⟨W.heap.size,0,none⟩=some (.int .i64 z.1):=by rw [Rg.cellNew]; rfl
 have c1:(W.alloc (.cells #[.int .i64 z.1,.int .i64 z.2.1,.int .i64 z.2.2] 51)).cell? ⟨W.heap.size,1,none⟩=some (.int .i64 z.2.1):=by rw [Rg.cellNew]; rfl
 have c2:(W.alloc (.cells #[.int .i64 z.1,.int .i64 z.2.1,.int .i64 z.2.2] 51)).cell? ⟨W.heap.size,2,none⟩=some (.int .i64 z.2.2):=by rw [Rg.cellNew]; rfl
 generalize W.alloc (.cells #[.int .i64 z.1,.int .i64 z.2.1,.int .i64 z.2.2] 51)=W1 at *
 obtain ⟨v',X,hr,h2,h3,h4,h5⟩:=run_append_own_at (P:=Tryz.prog) W1 B 36 ty 51 i0 (.agg #[.int .i64 0,.int .i64 0,.int .i64 0]) 3 24 Tryz.underlying36 hi hz0 hz1 hz2 rfl (by decide) v T.length (flat3 T) h' ⟨W.heap.size,0,none⟩ 1 1 [.int .i64 z.1,.int .i64 z.2.1,.int .i64 z.2.2] rfl (fun j x hj=>by
  match j,hj with
  | 0,hj=>simp at hj; subst hj; exact c0
  | 1,hj=>simp at hj; subst hj; exact c1
  | 2,hj=>simp at hj; subst hj; exact c2) (by simp [Value.oneCell']) (by unfold maxLen; omega) (by omega) (by omega)
 have hs2:Own3 B X v' (T++[z]):=by
  unfold Own3;rw [flat3_snoc,List.length_append];exact h2
 obtain ⟨a,c,hs,hc⟩:=hs2.shape;rw [List.length_append,List.length_singleton] at hs hc;subst hs;refine ⟨a,c,X,hr,hs2,Rg.Kp.trans (M:=fun k=>v.ownBlock=some k) ((Rg.Kp.of_below hb).weak fun _=>False.elim) (Rg.Kp.of_grown h3 fun _ e=>e) (fun _ _ e=>e),fun k e=>?_⟩
 rcases h5 with h5 | h5
 ·exact .inl (by rw [← h5]; exact e)
 ·rw [h5] at e
  injection e with e
  exact .inr (by omega)
structure Cw (W:World) (b o:Nat) (v:Value):Prop where
 c:W.cell? ⟨b,o,none⟩=some v
 f:W.frozen? ⟨b,o,none⟩=false
 lt:b<W.heap.size
theorem frozen_of_block {w w':World} {b o:Nat} (h:w'.heap[b]?=w.heap[b]?):w'.frozen? ⟨b,o,none⟩=w.frozen? ⟨b,o,none⟩:=by
 simp only [World.frozen?,h]
theorem Cw.kp {M:Nat→Prop} {w w':World} {b o:Nat} {v:Value} (h:Cw w b o v) (hk:Rg.Kp M w w') (hM:¬ M b):Cw w' b o v:=by
 have e:=hk.block b h.lt hM;exact ⟨(World.cell?_of_block (a:=⟨b,o,none⟩) e).trans h.c,(frozen_of_block e).trans h.f,Nat.lt_of_lt_of_le h.lt hk.size⟩
theorem Cw.set {w:World} {b o:Nat} {v:Value} (h:Cw w b o v) (u:Value):Cw (w.setCell ⟨b,o,none⟩ u) b o u :=
 ⟨World.cell?_setCell_same (h:=h.c) ..,by rw [World.frozen?_setCell]; exact h.f,by rw [World.setCell]; simpa using h.lt⟩
theorem Cw.other {w:World} {b o b2 o2:Nat} {v:Value} (h:Cw w b o v) (u:Value) (hne:b≠b2∨o≠o2):Cw (w.setCell ⟨b2,o2,none⟩ u) b o v :=
 ⟨(World.cell?_setCell_other (h:=by intro e; injection e with e1 e2; omega) ..).trans h.c,by rw [World.frozen?_setCell]; exact h.f,by rw [World.setCell]; simpa using h.lt⟩
structure EnAt (F:Nat→Prop) (W:World) (e:En) (xv yv:Value):Prop where
 c0:Cw W e.b 0 xv
 c1:Cw W e.b 1 yv
 c2:Cw W e.b 2 (.int .i64 ((e.at_:Nat):Int))
 c3:Cw W e.b 3 (.int .i64 e.by_)
 x:FP F W xv e.x
 y:FP F W yv (Ma.invN e.x)
theorem EnAt.kp {F M:Nat→Prop} {w w':World} {e:En} {xv yv:Value} (h:EnAt F w e xv yv) (hk:Rg.Kp M w w') (hM:¬ M e.b) (hF:∀ k,F k→¬ M k):EnAt F w' e xv yv :=
 ⟨h.c0.kp hk hM,h.c1.kp hk hM,h.c2.kp hk hM,h.c3.kp hk hM,Rg.FI.kp h.x hk hF,Rg.FI.kp h.y hk hF⟩
theorem EnAt.mono {F F':Nat→Prop} {w:World} {e:En} {xv yv:Value} (h:EnAt F w e xv yv) (hF:∀ k,F k→F' k):EnAt F' w e xv yv:=⟨h.c0,h.c1,h.c2,h.c3,h.x.mono hF,h.y.mono hF⟩
abbrev enP (e:En):Value:=.pointer (some ⟨e.b,0,none⟩)
def tbS (tb mb:Nat) (es:List En) (sv lv:Value) (k:Nat):Prop:=k=tb∨k=mb∨sv.ownBlock=some k∨lv.ownBlock=some k∨∃ e∈es,e.b=k
structure Ds (tb mb:Nat) (es:List En) (sv lv:Value):Prop where
 tm:tb≠mb
 st:sv.ownBlock≠some tb
 sm:sv.ownBlock≠some mb
 lt:lv.ownBlock≠some tb
 lm:lv.ownBlock≠some mb
 sl:∀ k,sv.ownBlock=some k→lv.ownBlock≠some k
 et:∀ e∈es,e.b≠tb
 em:∀ e∈es,e.b≠mb
 es_:∀ e∈es,sv.ownBlock≠some e.b
 el:∀ e∈es,lv.ownBlock≠some e.b
 nb:(es.map (·.b)).Nodup
structure TbM (B:Nat) (F:Nat→Prop) (tb mb N:Nat) (W:World) (S:List Stp) (nx:Nat) (es ms ls:List En) (sv lv:Value):Prop where
 Flt:∀ k,F k→k<W.heap.size
 h0:Cw W tb 0 sv
 h1:Cw W tb 1 (.int .i64 ((nx:Nat):Int))
 h2:Cw W tb 2 (.int .i64 ((N:Nat):Int))
 h3:Cw W tb 3 (.map (some mb))
 h4:Cw W tb 4 lv
 st:Own3 B W sv S
 ls:W.ownsRow B 110 1 lv ls.length (ls.map enP)
 mp:Jm.KMap W mb (ms.map fun e=>((e.i,e.p),enP e))
 en:∀ e∈es,∃ xv yv,EnAt F W e xv yv
 nF:∀ k,F k→¬ tbS tb mb es sv lv k
 ds:Ds tb mb es sv lv
 sz:B≤W.heap.size
theorem TbM.Mlt {B:Nat} {F:Nat→Prop} {tb mb N:Nat} {W:World} {S:List Stp} {nx:Nat} {es ms ls:List En} {sv lv:Value} (h:TbM B F tb mb N W S nx es ms ls sv lv):∀ k,tbS tb mb es sv lv k→k<W.heap.size:=by
 rintro k (rfl | rfl | e | e | ⟨e,he,rfl⟩)
 ·exact h.h0.lt
 ·exact h.mp.lt
 ·exact (h.st.lt k e).2
 ·exact (World.ownsRow.lt h.ls k e).2
 ·obtain ⟨xv,yv,q⟩:=h.en e he
  exact q.c0.lt
theorem TbM.kp {M:Nat→Prop} {B:Nat} {F:Nat→Prop} {tb mb N:Nat} {W W':World} {S:List Stp} {nx:Nat} {es ms ls:List En} {sv lv:Value} (h:TbM B F tb mb N W S nx es ms ls sv lv) (hk:Rg.Kp M W W') (hM:∀ k,M k→¬ tbS tb mb es sv lv k) (hF:∀ k,F k→¬ M k):TbM B F tb mb N W' S nx es ms ls sv lv:=by
 have ht:¬ M tb:=fun e=>hM _ e (.inl rfl);refine ⟨fun k hf=>Nat.lt_of_lt_of_le (h.Flt k hf) hk.size,h.h0.kp hk ht,h.h1.kp hk ht,h.h2.kp hk ht,h.h3.kp hk ht,h.h4.kp hk ht,h.st.kp hk (fun k hm e=>hM k hm (.inr (.inr (.inl e)))),rowKp h.ls hk (fun k hm e=>hM k hm (.inr (.inr (.inr (.inl e))))),h.mp.of_block (hk.block mb h.mp.lt (fun e=>hM _ e (.inr (.inl rfl)))),fun e he=>?_,h.nF,h.ds,Nat.le_trans h.sz hk.size⟩;obtain ⟨xv,yv,q⟩:=h.en e he;exact ⟨xv,yv,q.kp hk (fun hm=>hM _ hm (.inr (.inr (.inr (.inr ⟨e,he,rfl⟩))))) hF⟩
theorem TbM.below {B:Nat} {F:Nat→Prop} {tb mb N:Nat} {W W':World} {S:List Stp} {nx:Nat} {es ms ls:List En} {sv lv:Value} (h:TbM B F tb mb N W S nx es ms ls sv lv) (hb:Below W.heap.size W W'):TbM B F tb mb N W' S nx es ms ls sv lv :=
 h.kp (M:=fun _=>False) (Rg.Kp.of_below hb) (fun _=>False.elim) (fun _ _=>id)
theorem TbM.mono {B:Nat} {F F':Nat→Prop} {tb mb N:Nat} {W:World} {S:List Stp} {nx:Nat} {es ms ls:List En} {sv lv:Value} (h:TbM B F tb mb N W S nx es ms ls sv lv) (hF:∀ k,F k→F' k) (h1:∀ k,F' k→k<W.heap.size) (h2:∀ k,F' k→¬ tbS tb mb es sv lv k):TbM B F' tb mb N W S nx es ms ls sv lv :=
 ⟨h1,h.h0,h.h1,h.h2,h.h3,h.h4,h.st,h.ls,h.mp,fun e he=>by
  obtain ⟨xv,yv,q⟩:=h.en e he
  exact ⟨xv,yv,q.mono hF⟩,h2,h.ds,h.sz⟩
theorem TbM.up {B:Nat} {F:Nat→Prop} {tb mb N:Nat} {W W':World} {S:List Stp} {nx:Nat} {es ms ls:List En} {sv lv:Value} (h:TbM B F tb mb N W S nx es ms ls sv lv) (hb:Below W.heap.size W W'):TbM B (Fup F W W') tb mb N W' S nx es ms ls sv lv:=by
 have hl:=h.Mlt;refine (h.below hb).mono (fun k=>.inl) (fun k hk=>?_) (fun k hk hm=>?_)
 ·rcases hk with hk | hk
  ·exact Nat.lt_of_lt_of_le (h.Flt k hk) hb.size
  ·exact hk.2
 ·rcases hk with hk | hk
  ·exact h.nF k hk hm
  ·have:=hl k hm; omega
theorem TbM.next {B:Nat} {F:Nat→Prop} {tb mb N:Nat} {W:World} {S:List Stp} {nx:Nat} {es ms ls:List En} {sv lv:Value} (h:TbM B F tb mb N W S nx es ms ls sv lv) (k:Nat):TbM B F tb mb N (W.setCell ⟨tb,1,none⟩ (.int .i64 ((k:Nat):Int))) S k es ms ls sv lv∧Rg.Kp (tbS tb mb es sv lv) W (W.setCell ⟨tb,1,none⟩ (.int .i64 ((k:Nat):Int))):=by
 have hk:Rg.Kp (fun z=>z=tb) W (W.setCell ⟨tb,1,none⟩ (.int .i64 ((k:Nat):Int))):=Rg.Kp.of_setCell rfl;refine ⟨⟨fun k hf=>Nat.lt_of_lt_of_le (h.Flt k hf) hk.size,h.h0.other _ (.inr (by decide)),h.h1.set _,h.h2.other _ (.inr (by decide)),h.h3.other _ (.inr (by decide)),h.h4.other _ (.inr (by decide)),h.st.kp hk (fun z hz e=>h.ds.st (hz▸e)),rowKp h.ls hk (fun z hz e=>h.ds.lt (hz▸e)),h.mp.of_block (hk.block mb h.mp.lt (fun e=>h.ds.tm e.symm)),fun e he=>?_,h.nF,h.ds,Nat.le_trans h.sz hk.size⟩,hk.weak fun z hz=>.inl hz⟩;obtain ⟨xv,yv,q⟩:=h.en e he;exact ⟨xv,yv,q.kp hk (h.ds.et e he) (fun z hf hz=>h.nF z hf (.inl hz))⟩
theorem TbM.push {B:Nat} {F:Nat→Prop} {tb mb N:Nat} {W:World} {S:List Stp} {nx:Nat} {es ms ls:List En} {sv lv:Value} (h:TbM B F tb mb N W S nx es ms ls sv lv) (z:Stp) (hn:S.length<1000000) (ty:TypeId) :
  ∃ a c X,(Builtin.append_ #[36,36] ty #[sv,.slice (some ⟨W.heap.size,0,none⟩) 1 1]).run Tryz.prog (W.alloc (.cells #[.int .i64 z.1,.int .i64 z.2.1,.int .i64 z.2.2] 51))=.ok (.slice a (S.length+1) c) X∧Cw X tb 0 sv∧Rg.Kp (fun k=>sv.ownBlock=some k) W X ∧
   TbM B F tb mb N (X.setCell ⟨tb,0,none⟩ (.slice a (S.length+1) c)) (S++[z]) nx es ms ls (.slice a (S.length+1) c) lv∧Rg.Kp (tbS tb mb es sv lv) W (X.setCell ⟨tb,0,none⟩ (.slice a (S.length+1) c))∧(∀ k,tbS tb mb es (.slice a (S.length+1) c) lv k→tbS tb mb es sv lv k∨W.heap.size≤k):=by
 obtain ⟨a,c,X,r1,r2,r3,r4⟩:=h.st.push h.sz z hn ty;have h0:Cw X tb 0 sv:=h.h0.kp r3 h.ds.st;have hk:Rg.Kp (fun z=>z=tb) X (X.setCell ⟨tb,0,none⟩ (.slice a (S.length+1) c)):=Rg.Kp.of_setCell rfl;generalize hv:Value.slice a (S.length+1) c=v at *;have hkk:Rg.Kp (fun k=>k=tb∨sv.ownBlock=some k) W (X.setCell ⟨tb,0,none⟩ v):=Rg.Kp.trans (r3.weak fun _=>.inr) (hk.weak (M':=fun k=>k=tb∨sv.ownBlock=some k) fun _=>.inl) (fun _ _ e=>e);have hml:=h.Mlt
 have hds:Ds tb mb es v lv:=by
  have key:∀ q,q<W.heap.size→sv.ownBlock≠some q→v.ownBlock≠some q:=fun q hq h1 e=>by
   rcases r4 q e with e2 | e2
   ·exact h1 e2
   ·omega
  refine ⟨h.ds.tm,key _ h.h0.lt h.ds.st,key _ h.mp.lt h.ds.sm,h.ds.lt,h.ds.lm,fun k e e2=>?_,h.ds.et,h.ds.em,fun e he=>key _ ?_ (h.ds.es_ e he),h.ds.el,h.ds.nb⟩
  ·exact key k (World.ownsRow.lt h.ls k e2).2 (fun e3=>h.ds.sl k e3 e2) e
  ·obtain ⟨xv,yv,q⟩:=h.en e he
   exact q.c0.lt
 have hst:∀ k,tbS tb mb es v lv k→tbS tb mb es sv lv k∨W.heap.size≤k:=by
  rintro k (rfl | rfl | e | e | e)
  ·exact .inl (.inl rfl)
  ·exact .inl (.inr (.inl rfl))
  ·exact (r4 k e).imp (fun e=>.inr (.inr (.inl e))) id
  ·exact .inl (.inr (.inr (.inr (.inl e))))
  ·exact .inl (.inr (.inr (.inr (.inr e))))
 have hX:X.heap.size=(X.setCell ⟨tb,0,none⟩ v).heap.size:=by simp [World.setCell]
 subst hv;refine ⟨a,c,X,r1,h0,r3,?_,hkk.weak fun k hk=>?_,hst⟩
 ·refine ⟨fun k hf=>Nat.lt_of_lt_of_le (h.Flt k hf) hkk.size,h0.set _,(h.h1.kp r3 h.ds.st).other _ (.inr (by decide)),(h.h2.kp r3 h.ds.st).other _ (.inr (by decide)),(h.h3.kp r3 h.ds.st).other _ (.inr (by decide)),(h.h4.kp r3 h.ds.st).other _ (.inr (by decide)),r2.kp hk (fun z hz e=>hds.st (hz▸e)),rowKp h.ls hkk (fun z hz e=>?_),h.mp.of_block (hkk.block mb h.mp.lt (fun e=>e.elim (fun e=>h.ds.tm e.symm) h.ds.sm)),fun e he=>?_,fun k hf hm=>?_,hds,Nat.le_trans h.sz hkk.size⟩
  ·rcases hz with hz | hz
   ·exact h.ds.lt (hz▸e)
   ·exact h.ds.sl z hz e
  ·obtain ⟨xv,yv,q⟩:=h.en e he
   exact ⟨xv,yv,q.kp hkk (fun hz=>hz.elim (h.ds.et e he) (h.ds.es_ e he)) (fun z hf hz=>h.nF z hf (hz.elim .inl (fun e=>.inr (.inr (.inl e)))))⟩
  ·rcases hst k hm with q | q
   ·exact h.nF k hf q
   ·have:=h.Flt k hf; omega
 ·exact hk.elim .inl (fun e=>.inr (.inr (.inl e)))
theorem TbM.by {B:Nat} {F:Nat→Prop} {tb mb N:Nat} {W:World} {S:List Stp} {nx:Nat} {es:List En} {sv lv:Value} (h:TbM B F tb mb N W S nx es es es sv lv) {e:En} (he:e∈es) (k:Int) :
  TbM B F tb mb N (W.setCell ⟨e.b,3,none⟩ (.int .i64 k)) S nx (setBy es e.b k) (setBy es e.b k) (setBy es e.b k) sv lv∧Rg.Kp (tbS tb mb es sv lv) W (W.setCell ⟨e.b,3,none⟩ (.int .i64 k))∧(∀ q,tbS tb mb (setBy es e.b k) sv lv q↔tbS tb mb es sv lv q):=by
 have hk:Rg.Kp (fun z=>z=e.b) W (W.setCell ⟨e.b,3,none⟩ (.int .i64 k)):=Rg.Kp.of_setCell rfl
 have hmem:∀ q,(∃ e0∈setBy es e.b k,e0.b=q)↔∃ e0∈es,e0.b=q:=fun q=>by
  have h1:(∃ e0∈setBy es e.b k,e0.b=q)↔q∈(setBy es e.b k).map (·.b):=by rw [List.mem_map]
  have h2:(∃ e0∈es,e0.b=q)↔q∈es.map (·.b):=by rw [List.mem_map]
  rw [h1,h2,setBy_b]
 have hset:∀ q,tbS tb mb (setBy es e.b k) sv lv q↔tbS tb mb es sv lv q:=fun q=>by
  unfold tbS; rw [hmem]
 have hP:(setBy es e.b k).map enP=es.map enP:=by
  unfold setBy;rw [List.map_map];refine List.map_congr_left fun e0 _=>?_
  dsimp only [Function.comp]
  split <;> rfl
 have hM:((setBy es e.b k).map fun e=>((e.i,e.p),enP e))=es.map fun e=>((e.i,e.p),enP e):=by
  unfold setBy;rw [List.map_map];refine List.map_congr_left fun e0 _=>?_
  dsimp only [Function.comp]
  split <;> rfl
 have hin:∀ e0∈setBy es e.b k,∃ e1∈es,e0.b=e1.b:=fun e0 h0=>by
  obtain ⟨e1,h1,h2⟩:=(hmem e0.b).1 ⟨e0,h0,rfl⟩;exact ⟨e1,h1,h2.symm⟩
 refine ⟨⟨fun k hf=>Nat.lt_of_lt_of_le (h.Flt k hf) hk.size,h.h0.other _ (.inl fun q=>h.ds.et e he q.symm),h.h1.other _ (.inl fun q=>h.ds.et e he q.symm),h.h2.other _ (.inl fun q=>h.ds.et e he q.symm),h.h3.other _ (.inl fun q=>h.ds.et e he q.symm),h.h4.other _ (.inl fun q=>h.ds.et e he q.symm),h.st.kp hk (fun z hz q=>h.ds.es_ e he (hz▸q)),?_,?_,fun e0 h0=>?_,fun q hf hm=>h.nF q hf ((hset q).1 hm),?_,Nat.le_trans h.sz hk.size⟩,hk.weak fun z hz=>.inr (.inr (.inr (.inr ⟨e,he,hz.symm⟩))),hset⟩
 ·rw [hP,setBy_len]; exact rowKp h.ls hk (fun z hz q=>h.ds.el e he (hz▸q))
 ·rw [hM]; exact h.mp.of_block (hk.block mb h.mp.lt (fun q=>h.ds.em e he q.symm))
 ·have h0':=h0
  unfold Go.Proofs.YtdnmmibchbceeaaGreat.setBy at h0;obtain ⟨e1,h1,h2⟩:=List.mem_map.1 h0;obtain ⟨xv,yv,q⟩:=h.en e1 h1
  by_cases hb:e1.b=e.b
  ·rw [if_pos hb] at h2
   subst h2;refine ⟨xv,yv,⟨?_,?_,?_,?_,Rg.FI.kp q.x hk (fun z hf hz=>h.nF z hf (.inr (.inr (.inr (.inr ⟨e,he,hz.symm⟩))))),Rg.FI.kp q.y hk (fun z hf hz=>h.nF z hf (.inr (.inr (.inr (.inr ⟨e,he,hz.symm⟩)))))⟩⟩
   ·exact q.c0.other _ (.inr (by decide))
   ·exact q.c1.other _ (.inr (by decide))
   ·exact q.c2.other _ (.inr (by decide))
   ·have:=q.c3.set (.int .i64 k)
    rw [hb] at this;show Cw _ e1.b 3 _;rw [hb]; exact this
  ·rw [if_neg hb] at h2
   subst h2;exact ⟨xv,yv,q.kp hk hb (fun z hf hz=>h.nF z hf (.inr (.inr (.inr (.inr ⟨e,he,hz.symm⟩)))))⟩
 ·refine ⟨h.ds.tm,h.ds.st,h.ds.sm,h.ds.lt,h.ds.lm,h.ds.sl,fun e0 h0=>?_,fun e0 h0=>?_,fun e0 h0=>?_,fun e0 h0=>?_,by rw [setBy_b]; exact h.ds.nb⟩
  ·obtain ⟨e1,h1,h2⟩:=hin e0 h0; rw [h2]; exact h.ds.et e1 h1
  ·obtain ⟨e1,h1,h2⟩:=hin e0 h0; rw [h2]; exact h.ds.em e1 h1
  ·obtain ⟨e1,h1,h2⟩:=hin e0 h0; rw [h2]; exact h.ds.es_ e1 h1
  ·obtain ⟨e1,h1,h2⟩:=hin e0 h0; rw [h2]; exact h.ds.el e1 h1
theorem TbM.box {B:Nat} {F:Nat→Prop} {tb mb N:Nat} {W:World} {S:List Stp} {nx:Nat} {es:List En} {sv lv:Value} (h:TbM B F tb mb N W S nx es es es sv lv) {x:List Nat} {xv yv:Value} (hx:FP F W xv x) (hy:FP F W yv (Ma.invN x)) (i p k:Nat) (t:TypeId) :
  TbM B F tb mb N (W.alloc (.cells #[xv,yv,.int .i64 ((k:Nat):Int),.int .i64 (-1)] t)) S nx (es++[⟨W.heap.size,i,p,x,k,-1⟩]) es es sv lv∧(∀ q,tbS tb mb (es++[⟨W.heap.size,i,p,x,k,-1⟩]) sv lv q→tbS tb mb es sv lv q∨W.heap.size≤q):=by
 have hb:Below W.heap.size W (W.alloc (.cells #[xv,yv,.int .i64 ((k:Nat):Int),.int .i64 (-1)] t)):=(Below.refl _ _).alloc (Nat.le_refl _) _;have hk:Rg.Kp (fun _=>False) W (W.alloc (.cells #[xv,yv,.int .i64 ((k:Nat):Int),.int .i64 (-1)] t)):=Rg.Kp.of_below hb;have hl:=h.Mlt
 have hq:∀ q,tbS tb mb (es++[⟨W.heap.size,i,p,x,k,-1⟩]) sv lv q→tbS tb mb es sv lv q∨W.heap.size≤q:=by
  rintro q (e | e | e | e | ⟨e,he,hq⟩)
  ·exact .inl (.inl e)
  ·exact .inl (.inr (.inl e))
  ·exact .inl (.inr (.inr (.inl e)))
  ·exact .inl (.inr (.inr (.inr (.inl e))))
  ·rcases List.mem_append.1 he with he | he
   ·exact .inl (.inr (.inr (.inr (.inr ⟨e,he,hq⟩))))
   ·rw [List.mem_singleton] at he; subst he; exact .inr (by rw [← hq]; exact Nat.le_refl _)
 have h':=h.below hb;have hcell:∀ o (u:Value),(#[xv,yv,Value.int .i64 ((k:Nat):Int),.int .i64 (-1)]:Array Value)[o]?=some u→Cw (W.alloc (.cells #[xv,yv,.int .i64 ((k:Nat):Int),.int .i64 (-1)] t)) W.heap.size o u:=fun o u e=>⟨by rw [Rg.cellNew]; exact e,frozenNewN _ _ _ o _,by simp⟩;have hlt:∀ q,(∃ e∈es,e.b=q)→q<W.heap.size:=fun q e=>hl q (.inr (.inr (.inr (.inr e))));refine ⟨⟨h'.Flt,h'.h0,h'.h1,h'.h2,h'.h3,h'.h4,h'.st,h'.ls,h'.mp,fun e he=>?_,fun q hf hm=>?_,?_,h'.sz⟩,hq⟩
 ·rcases List.mem_append.1 he with he | he
  ·exact h'.en e he
  ·rw [List.mem_singleton] at he; subst he
   exact ⟨xv,yv,hcell 0 _ rfl,hcell 1 _ rfl,hcell 2 _ rfl,hcell 3 _ rfl,Rg.FI.kp hx hk (fun _ _=>id),Rg.FI.kp hy hk (fun _ _=>id)⟩
 ·rcases hq q hm with e | e
  ·exact h.nF q hf e
  ·have:=h.Flt q hf; omega
 ·have hne:∀ q,tbS tb mb es sv lv q→q≠W.heap.size:=fun q e e2=>by have:=hl q e; omega
  have key:∀ {P:En→Prop},(∀ e∈es,P e)→P ⟨W.heap.size,i,p,x,k,-1⟩→∀ e∈es++[⟨W.heap.size,i,p,x,k,-1⟩],P e:=fun h1 h2 e he=>by
   rcases List.mem_append.1 he with he | he
   ·exact h1 e he
   ·rw [List.mem_singleton] at he; subst he; exact h2
  refine ⟨h.ds.tm,h.ds.st,h.ds.sm,h.ds.lt,h.ds.lm,h.ds.sl,key h.ds.et (fun e=>hne tb (.inl rfl) e.symm),key h.ds.em (fun e=>hne mb (.inr (.inl rfl)) e.symm),key h.ds.es_ (fun e=>hne _ (.inr (.inr (.inl e))) rfl),key h.ds.el (fun e=>hne _ (.inr (.inr (.inr (.inl e)))) rfl),?_⟩;rw [List.map_append,List.map_singleton];refine List.nodup_append.2 ⟨h.ds.nb,by simp,fun a ha b hb e=>?_⟩;rw [List.mem_singleton] at hb;obtain ⟨e0,h0,h1⟩:=List.mem_map.1 ha;have:=hlt a ⟨e0,h0,h1⟩;rw [hb] at e;simp at e;omega
theorem ktT:Jm.KT Tryz.prog 101 106 3 110 (.pointer none):=⟨Tryz.underlying101,Tryz.underlying106,Tryz.underlying3,fun w=>by kernel_rfl,fun w=>by kernel_rfl⟩
theorem look_fnd (es:List En) (i p:Nat):Jm.look (es.map fun e=>((e.i,e.p),enP e)) (i,p)=(fnd es i p).map enP:=by
 unfold Jm.look fnd;rw [List.find?_map,Option.map_map];rfl
theorem TbM.put {B:Nat} {F:Nat→Prop} {tb mb N:Nat} {W:World} {S:List Stp} {nx:Nat} {es ms ls:List En} {sv lv:Value} (h:TbM B F tb mb N W S nx es ms ls sv lv) {e:En} (hno:fnd ms e.i e.p=none) :
  ∃ W',(Instr.mapUpdate 101 (.map (some mb)) (Jm.keyV (e.i,e.p)) (enP e)).run Tryz.prog W=.ok () W'∧TbM B F tb mb N W' S nx es (ms++[e]) ls sv lv∧Rg.Kp (tbS tb mb es sv lv) W W':=by
 obtain ⟨W',r1,r2,r3⟩:=Jm.update_new ktT h.mp (e.i,e.p) (by rw [look_fnd,hno]; rfl) (enP e);have hk:Rg.Kp (fun k=>k=mb) W W':=Rg.Kp.of_grown r3 (fun k e=>(Option.some.inj e).symm);refine ⟨W',r1,⟨fun k hf=>Nat.lt_of_lt_of_le (h.Flt k hf) hk.size,h.h0.kp hk h.ds.tm,h.h1.kp hk h.ds.tm,h.h2.kp hk h.ds.tm,h.h3.kp hk h.ds.tm,h.h4.kp hk h.ds.tm,h.st.kp hk (fun z hz e=>h.ds.sm (hz▸e)),rowKp h.ls hk (fun z hz e=>h.ds.lm (hz▸e)),by rw [List.map_append]; exact r2,fun e he=>?_,h.nF,h.ds,Nat.le_trans h.sz hk.size⟩,hk.weak fun z hz=>.inr (.inl hz)⟩;obtain ⟨xv,yv,q⟩:=h.en e he;exact ⟨xv,yv,q.kp hk (h.ds.em e he) (fun z hf hz=>h.nF z hf (.inr (.inl hz)))⟩
theorem slEnts:Rg.SlT Tryz.prog 102 110 (.pointer none) 8:=⟨Tryz.underlying102,by kernel_rfl,rfl,by decide⟩
theorem TbM.list {B:Nat} {F:Nat→Prop} {tb mb N:Nat} {W:World} {S:List Stp} {nx:Nat} {es ms ls:List En} {sv lv:Value} (h:TbM B F tb mb N W S nx es ms ls sv lv) (e:En) (hn:ls.length<1000000) (ty:TypeId) :
  ∃ a c X,(Builtin.append_ #[102,102] ty #[lv,.slice (some ⟨W.heap.size,0,none⟩) 1 1]).run Tryz.prog (W.alloc (.cells #[enP e] 110))=.ok (.slice a (ls.length+1) c) X∧Cw X tb 4 lv∧Rg.Kp (fun k=>lv.ownBlock=some k) W X ∧
   TbM B F tb mb N (X.setCell ⟨tb,4,none⟩ (.slice a (ls.length+1) c)) S nx es ms (ls++[e]) sv (.slice a (ls.length+1) c)∧Rg.Kp (tbS tb mb es sv lv) W (X.setCell ⟨tb,4,none⟩ (.slice a (ls.length+1) c))∧(∀ k,tbS tb mb es sv (.slice a (ls.length+1) c) k→tbS tb mb es sv lv k∨W.heap.size≤k):=by
 have hb:Below W.heap.size W (W.alloc (.cells #[enP e] 110)):=(Below.refl _ _).alloc (Nat.le_refl _) _
 have e2:(W.alloc (.cells #[enP e] 110)).heap.size=W.heap.size+1:=by simp
 obtain ⟨v',X,r1,r2,q3,q4,a,c,rfl⟩:=app_run (P:=Tryz.prog) slEnts ty (Rg.row_below h.ls hb) (Nat.le_trans h.sz hb.size) W.heap.size 1 (u:=enP e) (by rw [Rg.cellNew]; rfl) rfl hn;have r3:Rg.Kp (fun k=>lv.ownBlock=some k) W X:=Rg.Kp.trans (M:=fun k=>lv.ownBlock=some k) ((Rg.Kp.of_below hb).weak fun _=>False.elim) (Rg.Kp.of_grown q3 fun _ e=>e) (fun _ _ e=>e)
 have r4:∀ k,(Value.slice a (ls.length+1) c).ownBlock=some k→lv.ownBlock=some k∨W.heap.size≤k:=fun k e=>by
  rcases q4 with q4 | q4
  ·exact .inl (by rw [← q4]; exact e)
  ·rw [q4] at e
   injection e with e
   exact .inr (by omega)
 have h4:Cw X tb 4 lv:=h.h4.kp r3 h.ds.lt;have hk:Rg.Kp (fun z=>z=tb) X (X.setCell ⟨tb,4,none⟩ (.slice a (ls.length+1) c)):=Rg.Kp.of_setCell rfl;generalize hv:Value.slice a (ls.length+1) c=v at *;have hkk:Rg.Kp (fun k=>k=tb∨lv.ownBlock=some k) W (X.setCell ⟨tb,4,none⟩ v):=Rg.Kp.trans (r3.weak fun _=>.inr) (hk.weak (M':=fun k=>k=tb∨lv.ownBlock=some k) fun _=>.inl) (fun _ _ e=>e)
 have hds:Ds tb mb es sv v:=by
  have key:∀ q,q<W.heap.size→lv.ownBlock≠some q→v.ownBlock≠some q:=fun q hq h1 e=>by
   rcases r4 q e with e2 | e2
   ·exact h1 e2
   ·omega
  refine ⟨h.ds.tm,h.ds.st,h.ds.sm,key _ h.h0.lt h.ds.lt,key _ h.mp.lt h.ds.lm,fun k e e2=>?_,h.ds.et,h.ds.em,h.ds.es_,fun e he=>key _ ?_ (h.ds.el e he),h.ds.nb⟩
  ·exact key k (h.st.lt k e).2 (h.ds.sl k e) e2
  ·obtain ⟨xv,yv,q⟩:=h.en e he
   exact q.c0.lt
 have hst:∀ k,tbS tb mb es sv v k→tbS tb mb es sv lv k∨W.heap.size≤k:=by
  rintro k (rfl | rfl | e | e | e)
  ·exact .inl (.inl rfl)
  ·exact .inl (.inr (.inl rfl))
  ·exact .inl (.inr (.inr (.inl e)))
  ·exact (r4 k e).imp (fun e=>.inr (.inr (.inr (.inl e)))) id
  ·exact .inl (.inr (.inr (.inr (.inr e))))
 subst hv;refine ⟨a,c,X,r1,h4,r3,?_,hkk.weak fun k hk=>?_,hst⟩
 ·refine ⟨fun k hf=>Nat.lt_of_lt_of_le (h.Flt k hf) hkk.size,(h.h0.kp r3 h.ds.lt).other _ (.inr (by decide)),(h.h1.kp r3 h.ds.lt).other _ (.inr (by decide)),(h.h2.kp r3 h.ds.lt).other _ (.inr (by decide)),(h.h3.kp r3 h.ds.lt).other _ (.inr (by decide)),h4.set _,h.st.kp hkk (fun z hz e=>?_),?_,h.mp.of_block (hkk.block mb h.mp.lt (fun e=>e.elim (fun e=>h.ds.tm e.symm) h.ds.lm)),fun e he=>?_,fun k hf hm=>?_,hds,Nat.le_trans h.sz hkk.size⟩
  ·rcases hz with hz | hz
   ·exact h.ds.st (hz▸e)
   ·exact h.ds.sl z e hz
  ·rw [List.length_append,List.map_append]; exact rowKp r2 hk (fun z hz e=>hds.lt (hz▸e))
  ·obtain ⟨xv,yv,q⟩:=h.en e he
   exact ⟨xv,yv,q.kp hkk (fun hz=>hz.elim (h.ds.et e he) (h.ds.el e he)) (fun z hf hz=>h.nF z hf (hz.elim .inl (fun e=>.inr (.inr (.inr (.inl e))))))⟩
  ·rcases hst k hm with q | q
   ·exact h.nF k hf q
   ·have:=h.Flt k hf; omega
 ·exact hk.elim .inl (fun e=>.inr (.inr (.inr (.inl e))))
theorem TbM.gw {M':Nat→Prop} {B:Nat} {F:Nat→Prop} {tb mb N:Nat} {W W':World} {S:List Stp} {nx:Nat} {es ms ls:List En} {sv lv:Value} (h:TbM B F tb mb N W S nx es ms ls sv lv) (hk:Rg.Kp (tbS tb mb es sv lv) W W') (hM:∀ k,M' k→tbS tb mb es sv lv k∨W.heap.size≤k):Gw F (tbS tb mb es sv lv) W F M' W' :=
 Gw.put (fun k hf=>⟨h.Flt k hf,h.nF k hf⟩) hk hM
theorem TbM.at {B:Nat} {F:Nat→Prop} {tb mb N:Nat} {W:World} {S:List Stp} {nx:Nat} {es ms ls:List En} {sv lv:Value} (h:TbM B F tb mb N W S nx es ms ls sv lv) {i:Nat} (hi:i<ls.length):∃ g c,lv=.slice (some ⟨g,0,none⟩) ls.length c∧CL W g (0+i) (enP ls[i]):=by
 obtain ⟨g,c,u,e1,e2,e3,e4⟩:=row_of h.ls hi;rw [List.getElem?_map,List.getElem?_eq_getElem hi] at e3;obtain rfl:enP ls[i]=u:=Option.some.inj e3;exact ⟨g,c,e1,e2,e4⟩
end Go.Proofs.YtdnmmibchbceeaaGreat

namespace Go.Proofs.YtdnmmibchbceeaaGreat
open Go.RowKit
open Go.Proofs
open Go.Proofs.Ob
attribute [local irreducible] Go.Calls
theorem recF0 (b:Nat) (w:World):(Instr.fieldAt 100 (.pointer (some ⟨b,0,none⟩)) 0).run Tryz.prog w=.ok (.pointer (some ⟨b,0,none⟩)) w:=by kernel_rfl
theorem recF1 (b:Nat) (w:World):(Instr.fieldAt 100 (.pointer (some ⟨b,0,none⟩)) 1).run Tryz.prog w=.ok (.pointer (some ⟨b,1,none⟩)) w:=by kernel_rfl
theorem tblF0 (b:Nat) (w:World):(Instr.fieldAt 104 (.pointer (some ⟨b,0,none⟩)) 0).run Tryz.prog w=.ok (.pointer (some ⟨b,0,none⟩)) w:=by kernel_rfl
theorem tblF1 (b:Nat) (w:World):(Instr.fieldAt 104 (.pointer (some ⟨b,0,none⟩)) 1).run Tryz.prog w=.ok (.pointer (some ⟨b,2,none⟩)) w:=by kernel_rfl
theorem tblF2 (b:Nat) (w:World):(Instr.fieldAt 104 (.pointer (some ⟨b,0,none⟩)) 2).run Tryz.prog w=.ok (.pointer (some ⟨b,3,none⟩)) w:=by kernel_rfl
theorem tblF3 (b:Nat) (w:World):(Instr.fieldAt 104 (.pointer (some ⟨b,0,none⟩)) 3).run Tryz.prog w=.ok (.pointer (some ⟨b,4,none⟩)) w:=by kernel_rfl
theorem enF0 (b:Nat) (w:World):(Instr.fieldAt 113 (.pointer (some ⟨b,0,none⟩)) 0).run Tryz.prog w=.ok (.pointer (some ⟨b,0,none⟩)) w:=by kernel_rfl
theorem enF1 (b:Nat) (w:World):(Instr.fieldAt 113 (.pointer (some ⟨b,0,none⟩)) 1).run Tryz.prog w=.ok (.pointer (some ⟨b,1,none⟩)) w:=by kernel_rfl
theorem enF2 (b:Nat) (w:World):(Instr.fieldAt 113 (.pointer (some ⟨b,0,none⟩)) 2).run Tryz.prog w=.ok (.pointer (some ⟨b,2,none⟩)) w:=by kernel_rfl
theorem enF3 (b:Nat) (w:World):(Instr.fieldAt 113 (.pointer (some ⟨b,0,none⟩)) 3).run Tryz.prog w=.ok (.pointer (some ⟨b,3,none⟩)) w:=by kernel_rfl
theorem exec_buildKy {o:Oper} {a:Act} {w:World} {i j:Int} (x y:Operand) (ho:o.op=.build 106 #[(0,x),(1,y)]) (hx:a.eval x=.int .i64 i) (hy:a.eval y=.int .i64 j) :
  (execOp a.eval o).run Tryz.prog w=.ok (.value (.agg #[.int .i64 i,.int .i64 j])) w:=by
 unfold execOp;simp only [ho,Sem.run_bind,Sem.run_pure];simp only [List.map_toArray,List.map_cons,List.map_nil,hx,hy]
 have h:(Instr.build 106 #[(0,.int .i64 i),(1,.int .i64 j)]).run Tryz.prog w=.ok (.agg #[.int .i64 i,.int .i64 j]) w:=by kernel_rfl
 first | (rw [h]; rfl) | (erw [h]; rfl)
theorem exec_buildSi {o:Oper} {a:Act} {w:World} {i j:Int} (x y:Operand) (ho:o.op=.build 51 #[(0,x),(1,y)]) (hx:a.eval x=.int .i64 i) (hy:a.eval y=.int .i64 j) :
  (execOp a.eval o).run Tryz.prog w=.ok (.value (.agg #[.int .i64 i,.int .i64 j,.int .i64 0])) w:=by
 unfold execOp;simp only [ho,Sem.run_bind,Sem.run_pure];simp only [List.map_toArray,List.map_cons,List.map_nil,hx,hy]
 have h:(Instr.build 51 #[(0,.int .i64 i),(1,.int .i64 j)]).run Tryz.prog w=.ok (.agg #[.int .i64 i,.int .i64 j,.int .i64 0]) w:=by kernel_rfl
 first | (rw [h]; rfl) | (erw [h]; rfl)
theorem exec_buildSm {o:Oper} {a:Act} {w:World} {i j k:Int} (x y z:Operand) (ho:o.op=.build 51 #[(0,x),(1,y),(2,z)]) (hx:a.eval x=.int .i64 i) (hy:a.eval y=.int .i64 j) (hz:a.eval z=.int .i64 k) :
  (execOp a.eval o).run Tryz.prog w=.ok (.value (.agg #[.int .i64 i,.int .i64 j,.int .i64 k])) w:=by
 unfold execOp;simp only [ho,Sem.run_bind,Sem.run_pure];simp only [List.map_toArray,List.map_cons,List.map_nil,hx,hy,hz]
 have h:(Instr.build 51 #[(0,.int .i64 i),(1,.int .i64 j),(2,.int .i64 k)]).run Tryz.prog w=.ok (.agg #[.int .i64 i,.int .i64 j,.int .i64 k]) w:=by kernel_rfl
 first | (rw [h]; rfl) | (erw [h]; rfl)
theorem exec_buildEn {o:Oper} {a:Act} {w:World} {a1 a2:Option Addr} {n1 n2 c1 c2:Nat} {i j:Int} (x y z u:Operand) (ho:o.op=.build 113 #[(0,x),(1,y),(2,z),(3,u)]) (hx:a.eval x=.slice a1 n1 c1) (hy:a.eval y=.slice a2 n2 c2) (hz:a.eval z=.int .i64 i) (hu:a.eval u=.int .i64 j) :
  (execOp a.eval o).run Tryz.prog w=.ok (.value (.agg #[.slice a1 n1 c1,.slice a2 n2 c2,.int .i64 i,.int .i64 j])) w:=by
 unfold execOp;simp only [ho,Sem.run_bind,Sem.run_pure];simp only [List.map_toArray,List.map_cons,List.map_nil,hx,hy,hz,hu]
 have h:(Instr.build 113 #[(0,.slice a1 n1 c1),(1,.slice a2 n2 c2),(2,.int .i64 i),(3,.int .i64 j)]).run Tryz.prog w=.ok (.agg #[.slice a1 n1 c1,.slice a2 n2 c2,.int .i64 i,.int .i64 j]) w:=by kernel_rfl
 first | (rw [h]; rfl) | (erw [h]; rfl)
theorem exec_buildRc {o:Oper} {a:Act} {w:World} {i:Int} (x:Operand) (ho:o.op=.build 100 #[(1,x)]) (hx:a.eval x=.int .i64 i) :
  (execOp a.eval o).run Tryz.prog w=.ok (.value (.agg #[.slice none 0 0,.int .i64 i])) w:=by
 unfold execOp;simp only [ho,Sem.run_bind,Sem.run_pure];simp only [List.map_toArray,List.map_cons,List.map_nil,hx]
 have h:(Instr.build 100 #[(1,.int .i64 i)]).run Tryz.prog w=.ok (.agg #[.slice none 0 0,.int .i64 i]) w:=by kernel_rfl
 first | (rw [h]; rfl) | (erw [h]; rfl)
theorem exec_buildTb4 {o:Oper} {a:Act} {w:World} {i j:Int} {m:Nat} (x y z:Operand) (ho:o.op=.build 104 #[(0,x),(1,y),(2,z)]) (hx:a.eval x=.agg #[.slice none 0 0,.int .i64 i]) (hy:a.eval y=.int .i64 j) (hz:a.eval z=.map (some m)) :
  (execOp a.eval o).run Tryz.prog w=.ok (.value (.agg #[.slice none 0 0,.int .i64 i,.int .i64 j,.map (some m),.slice none 0 0])) w:=by
 unfold execOp;simp only [ho,Sem.run_bind,Sem.run_pure];simp only [List.map_toArray,List.map_cons,List.map_nil,hx,hy,hz]
 have h:(Instr.build 104 #[(0,.agg #[.slice none 0 0,.int .i64 i]),(1,.int .i64 j),(2,.map (some m))]).run Tryz.prog w=.ok (.agg #[.slice none 0 0,.int .i64 i,.int .i64 j,.map (some m),.slice none 0 0]) w:=by kernel_rfl
 first | (rw [h]; rfl) | (erw [h]; rfl)
theorem exec_pnilT {o:Oper} {a:Act} {w:World} (x y:Operand) (ho:o.op=.binOp .eql 110 x y 110) (hx:a.eval x=.pointer none) (hy:a.eval y=.pointer none):(execOp a.eval o).run Tryz.prog w=.ok (.value (.bool true)) w:=by
 have h1:(binOp .eql 110 (.pointer none) (.pointer none)).run Tryz.prog w=.ok (.bool true) w:=by kernel_rfl
 have hg:(eqGuard .eql 110 x y (.pointer none) (.pointer none)).run Tryz.prog w=.ok () w:=by
  simp [eqGuard]
 unfold execOp;simp only [ho,hx,hy,Sem.run_bind,Sem.run_pure,hg,h1,Result.andThen_ok]
theorem exec_pnilF {o:Oper} {a:Act} {w:World} {ad:Addr} (x y:Operand) (ho:o.op=.binOp .eql 110 x y 110) (hx:a.eval x=.pointer (some ad)) (hy:a.eval y=.pointer none):(execOp a.eval o).run Tryz.prog w=.ok (.value (.bool false)) w:=by
 have h1:(binOp .eql 110 (.pointer (some ad)) (.pointer none)).run Tryz.prog w=.ok (.bool false) w:=by kernel_rfl
 have hg:(eqGuard .eql 110 x y (.pointer (some ad)) (.pointer none)).run Tryz.prog w=.ok () w:=by
  simp [eqGuard]
 unfold execOp;simp only [ho,hx,hy,Sem.run_bind,Sem.run_pure,hg,h1,Result.andThen_ok]
theorem run_loadME {w:World} {ad:Addr} {v:Value} (h:w.cell? ad=some v):(loadVar 101 ad).run Tryz.prog w=.ok v w:=by
 simp [loadVar,isAgg,run_underlying Tryz.underlying101,load];simp [Sem.run,h]
theorem infoP2:(Tryz.prog.info? 106).map (fun i=>(i.zero,i.size,i.bytes))=some (some (.agg #[.int .i64 0,.int .i64 0]),2,16):=by kernel_rfl
theorem run_loadP2 {b o:Nat} {x y:Value} {W:World} (h0:W.cell? ⟨b,o,none⟩=some x) (h1:W.cell? ⟨b,o+1,none⟩=some y):(loadVar 106 ⟨b,o,none⟩).run Tryz.prog W=.ok (.agg #[x,y]) W:=by
 have hl:(loadCells ⟨b,o,none⟩ 2).run Tryz.prog W=.ok #[x,y] W :=
  run_loadCells_list (P:=Tryz.prog) W ⟨b,o,none⟩ [x,y] (fun j v hv=>by
   match j,hv with
   | 0,hv=>simp at hv; subst hv; exact h0
   | 1,hv=>simp at hv; subst hv; exact h1)
 have ha:(isAgg 106).run Tryz.prog W=.ok true W:=by kernel_rfl
 simp [loadVar,Sem.run_bind,ha,hl]
theorem exec_allocP2 {o:Oper} {a:Act} {w:World} (ho:o.op=.alloc 106):(execOp a.eval o).run Tryz.prog w=.ok (.value (.pointer (some ⟨w.heap.size,0,none⟩))) (w.alloc (.cells #[.int .i64 0,.int .i64 0] 106)):=by
 obtain ⟨i0,hi,hz0,hz1,hz2⟩:=info_parts infoP2;unfold execOp;simp [ho,Instr.alloc,typeInfo,zeroValue,hi,hz0,newVar,Value.cells,Result.andThen];rfl
theorem run_storeP2 {w:World} {b:Nat} {u1 u2:Value} (x y:Int) (h1:Cw w b 0 u1) (h2:Cw w b 1 u2) :
  (storeVar 106 ⟨b,0,none⟩ (.agg #[.int .i64 x,.int .i64 y])).run Tryz.prog w=.ok () ((w.setCell ⟨b,0,none⟩ (.int .i64 x)).setCell ⟨b,1,none⟩ (.int .i64 y)):=by
 obtain ⟨i0,hi,hz0,hz1,hz2⟩:=info_parts infoP2;have g2:=h2.other (.int .i64 x) (b2:=b) (o2:=0) (.inr (by decide))
 have ha0:(⟨b,0,none⟩:Addr).add 0=⟨b,0,none⟩:=by simp [Addr.add]
 have ha1:(⟨b,0,none⟩:Addr).add 1=⟨b,1,none⟩:=by simp [Addr.add]
 simp [storeVar,sizeOf,typeInfo,hi,hz1,Value.cells,storeCells,store,ha0,ha1];simp [Sem.run,h1.c,h1.f,g2.c,g2.f]
structure Pw (W:World) (b:Nat) (x y:Int):Prop where
 c0:Cw W b 0 (.int .i64 x)
 c1:Cw W b 1 (.int .i64 y)
theorem Pw.new (W:World):Pw (W.alloc (.cells #[.int .i64 0,.int .i64 0] 106)) W.heap.size 0 0 :=
 ⟨⟨by rw [Rg.cellNew]; rfl,frozenNewN _ _ _ 0 _,by simp⟩,⟨by rw [Rg.cellNew]; rfl,frozenNewN _ _ _ 1 _,by simp⟩⟩
theorem Pw.kp {M:Nat→Prop} {w w':World} {b:Nat} {x y:Int} (h:Pw w b x y) (hk:Rg.Kp M w w') (hM:¬ M b):Pw w' b x y:=⟨h.c0.kp hk hM,h.c1.kp hk hM⟩
theorem Pw.below {w w':World} {b:Nat} {x y:Int} (h:Pw w b x y) (hb:Below w.heap.size w w'):Pw w' b x y:=h.kp (M:=fun _=>False) (Rg.Kp.of_below hb) id
theorem Pw.set {w:World} {b:Nat} {x y:Int} (h:Pw w b x y) (u v:Int):Pw ((w.setCell ⟨b,0,none⟩ (.int .i64 u)).setCell ⟨b,1,none⟩ (.int .i64 v)) b u v :=
 ⟨(h.c0.set _).other _ (.inr (by decide)),(h.c1.other _ (.inr (by decide))).set _⟩
theorem Pw.run {w:World} {b:Nat} {x y:Int} (h:Pw w b x y) (u v:Int):(storeVar 106 ⟨b,0,none⟩ (.agg #[.int .i64 u,.int .i64 v])).run Tryz.prog w=.ok () ((w.setCell ⟨b,0,none⟩ (.int .i64 u)).setCell ⟨b,1,none⟩ (.int .i64 v)):=run_storeP2 u v h.c0 h.c1
theorem Pw.load {w:World} {b:Nat} {x y:Int} (h:Pw w b x y):(loadVar 106 ⟨b,0,none⟩).run Tryz.prog w=.ok (.agg #[.int .i64 x,.int .i64 y]) w:=run_loadP2 h.c0.c h.c1.c
theorem results_sift {fn:Func} {t u p v:Go.Tmp} (h:fn.results=#[.tmp t,.tmp u,.cell p 106,.tmp v]) (tmps:Array Value) {w:World} {b:Nat} {x y:Int} {vt vu vv:Value} (hp:tmps.getD p undef=.pointer (some ⟨b,0,none⟩)) (ht:tmps.getD t undef=vt) (hu:tmps.getD u undef=vu) (hv:tmps.getD v undef=vv) (h1:Pw w b x y) :
  (results fn tmps).run Tryz.prog w=.ok (.tuple #[vt,vu,.agg #[.int .i64 x,.int .i64 y],vv]) w:=by
 simp only [Array.getD_eq_getD_getElem?] at hp ht hu hv;simp only [results,h];simp [Result.andThen,hp,ht,hu,hv,asAddr,h1.load]
theorem infoTbp:(Tryz.prog.info? 98).map (fun i=>(i.zero,i.size,i.bytes))=some (some (.pointer none),1,8):=by kernel_rfl
theorem exec_allocTbp {o:Oper} {a:Act} {w:World} (ho:o.op=.alloc 98):(execOp a.eval o).run Tryz.prog w=.ok (.value (.pointer (some ⟨w.heap.size,0,none⟩))) (w.alloc (.cells #[.pointer none] 98)):=by
 obtain ⟨i0,hi,hz0,hz1,hz2⟩:=info_parts infoTbp;unfold execOp;simp [ho,Instr.alloc,typeInfo,zeroValue,hi,hz0,newVar,newRow,Value.cells,Result.andThen]
theorem run_storeTbp {w:World} {b o:Nat} {u:Value} (v:Option Addr) (h:w.cell? ⟨b,o,none⟩=some u) (hf:w.frozen? ⟨b,o,none⟩=false) :
  (storeVar 98 ⟨b,o,none⟩ (.pointer v)).run Tryz.prog w=.ok () (w.setCell ⟨b,o,none⟩ (.pointer v)):=by
 obtain ⟨i0,hi,hz0,hz1,hz2⟩:=info_parts infoTbp
 have h0:(⟨b,o,none⟩:Addr).add 0=⟨b,o,none⟩:=by simp [Addr.add]
 simp [storeVar,sizeOf,typeInfo,hi,hz1,Value.cells,storeCells,store,h0];simp [Sem.run,h,hf]
theorem infoStepsV:(Tryz.prog.info? 36).map (fun i=>(i.zero,i.size,i.bytes))=some (some (.slice none 0 0),1,24):=by kernel_rfl
theorem infoEntsV:(Tryz.prog.info? 102).map (fun i=>(i.zero,i.size,i.bytes))=some (some (.slice none 0 0),1,24):=by kernel_rfl
theorem infoEnp:(Tryz.prog.info? 110).map (fun i=>(i.zero,i.size,i.bytes))=some (some (.pointer none),1,8):=by kernel_rfl
theorem run_build1E (X:World) (ad:Addr):(Instr.buildSlice 102 1 #[(0,.pointer (some ad))]).run Tryz.prog X=.ok (.slice (some ⟨X.heap.size,0,none⟩) 1 1) (X.alloc (.cells #[.pointer (some ad)] 110)):=by
 obtain ⟨i0,hi,hz0,hz1,hz2⟩:=info_parts infoEnp;refine run_buildSlice X 102 110 1 _ _ i0 _ Tryz.underlying102 hi hz0 (by rw [hz1]; decide) (by rw [hz1]; decide) ?_;generalize (fun x=>((Value.pointer none).cells)[x % (Value.pointer none).cells.size]!)=f;rw [hz1];have h1:Array.range (1*1)=#[0]:=rfl;simp [Instr.fill,Value.cells,h1]
theorem infoIntB:(Tryz.prog.info? 3).map (fun i=>(i.zero,i.size,i.bytes))=some (some (.int .i64 0),1,8):=by kernel_rfl
theorem run_build1N (X:World) (i:Int):(Instr.buildSlice 25 1 #[(0,.int .i64 i)]).run Tryz.prog X=.ok (.slice (some ⟨X.heap.size,0,none⟩) 1 1) (X.alloc (.cells #[.int .i64 i] 3)):=by
 obtain ⟨i0,hi,hz0,hz1,hz2⟩:=info_parts infoIntB;refine run_buildSlice X 25 3 1 _ _ i0 _ Tryz.underlying25 hi hz0 (by rw [hz1]; decide) (by rw [hz1]; decide) ?_;generalize (fun x=>((Value.int .i64 0).cells)[x % (Value.int .i64 0).cells.size]!)=f;rw [hz1];have h1:Array.range (1*1)=#[0]:=rfl;simp [Instr.fill,Value.cells,h1]
theorem run_build2N (X:World) (i j:Int):(Instr.buildSlice 25 2 #[(0,.int .i64 i),(1,.int .i64 j)]).run Tryz.prog X=.ok (.slice (some ⟨X.heap.size,0,none⟩) 2 2) (X.alloc (.cells #[.int .i64 i,.int .i64 j] 3)):=by
 obtain ⟨i0,hi,hz0,hz1,hz2⟩:=info_parts infoIntB;refine run_buildSlice X 25 3 2 _ _ i0 _ Tryz.underlying25 hi hz0 (by rw [hz1]; decide) (by rw [hz1]; decide) ?_;generalize (fun x=>((Value.int .i64 0).cells)[x % (Value.int .i64 0).cells.size]!)=f;rw [hz1];have h1:Array.range (2*1)=#[0,1]:=rfl;simp [Instr.fill,Value.cells,h1]
theorem RwI.new {F M:Nat→Prop} {W:World} (hF:∀ k,F k→k<W.heap.size) (hM:∀ k,M k→k<W.heap.size) (l:List Int) (hl:l.length≤1000) (t:TypeId) (ht:t=3):RwI F M (W.alloc (.cells (l.map (Value.int .i64)).toArray t)) (.slice (some ⟨W.heap.size,0,none⟩) l.length l.length) l:=by
 subst ht;refine ⟨⟨W.heap.size,by simp,⟨by simp,.inr ⟨W.heap.size,l.length,(l.map (Value.int .i64)).toArray,rfl,Nat.le_refl _,by unfold World.alloc; simp,Nat.le_refl _,by unfold maxLen; omega,by simp,by simpa using List.take_of_length_le (by simp)⟩⟩⟩,fun k e=>?_⟩;have e:some W.heap.size=some k:=e
 injection e with e
 subst e;exact ⟨fun h=>Nat.lt_irrefl _ (hF _ h),fun h=>Nat.lt_irrefl _ (hM _ h),by simp⟩
theorem exec_slice1E {o:Oper} {a:Act} {w:World} {v r:Value} (x:Operand) (ho:o.op=.slice 102 x (some (.const (.int .i64 1))) none none) (hx:a.eval x=v) (hr:(Instr.sliceAt 102 v (some (.int .i64 1)) none none).run Tryz.prog w=.ok r w) :
  (execOp a.eval o).run Tryz.prog w=.ok (.value r) w:=by
 unfold execOp;simp only [ho,hx,Sem.run_bind,Sem.run_pure,Option.map]
 first | (rw [hr]; rfl) | (erw [hr]; rfl) | simp [hr]
end Go.Proofs.YtdnmmibchbceeaaGreat

namespace Go.Proofs.YtdnmmibchbceeaaGreat
open Go.RowKit
open Go.Proofs
open Go.Proofs.Ob
attribute [local irreducible] Go.Calls Go.wpList
theorem Decl0 (args:Array Value) (w:World):(callFunc 69 args).run Tryz.prog w=.ok (.enter 69 args) w:=by kernel_rfl
theorem eb_inj:∀ {es:List En},(es.map (·.b)).Nodup→∀ {e e':En},e∈es→e'∈es→e.b=e'.b→e=e'
 | [],_,e,e',h,_,_=>by cases h
 | a :: es,hn,e,e',h,h',hb=>by
  rw [List.map_cons,List.nodup_cons] at hn
  rcases List.mem_cons.1 h with h | h <;> rcases List.mem_cons.1 h' with h' | h'
  ·rw [h,h']
  ·exact absurd (List.mem_map.2 ⟨e',h',by rw [← hb,h]⟩:a.b∈es.map (·.b)) hn.1
  ·exact absurd (List.mem_map.2 ⟨e,h,by rw [hb,h']⟩:a.b∈es.map (·.b)) hn.1
  ·exact eb_inj hn.2 h h' hb
theorem setBy_all (es:List En) (b:Nat) (k:Int):(setBy es b k).map (fun e=>(e.b,e.i,e.p,e.x,e.at_))=es.map fun e=>(e.b,e.i,e.p,e.x,e.at_):=by
 unfold setBy;rw [List.map_map];refine List.map_congr_left fun e _=>?_
 dsimp only [Function.comp]
 split <;> rfl
def RecP (B:Nat) (F:Nat→Prop) (tb mb N:Nat) (S:List Stp) (nx:Nat) (es:List En) (sv lv:Value) (z:Stp) (w:World) (e:Ending) (w':World):Prop :=
 ∃ F' sv',e=.returned (.int .i64 ((nx:Nat):Int))∧TbM B F' tb mb N w' (S++[z]) (nx+1) es es es sv' lv∧Gw F (tbS tb mb es sv lv) w F' (tbS tb mb es sv' lv) w'
theorem record_any {B:Nat} {F:Nat→Prop} {tb mb N:Nat} {w:World} {S:List Stp} {nx:Nat} {es:List En} {sv lv:Value} (h:TbM B F tb mb N w S nx es es es sv lv) (x y z:Int) (hn:S.length<100000) (hx:nx<1000000) :
  Calls Tryz.prog 69 #[.pointer (some ⟨tb,0,none⟩),.agg #[.int .i64 x,.int .i64 y,.int .i64 z]] w (RecP B F tb mb N S nx es sv lv (x,y,z) w):=by
 obtain ⟨M0,hM0⟩:∃ M,Hid (M=tbS tb mb es sv lv):=⟨_,ι rfl⟩;have T:=ι h;have K:=ι (Gw.refl (M:=tbS tb mb es sv lv) h.Flt);have HN:=ι hn;have hb:Below w.heap.size w (w.alloc (.cells #[.int .i64 x,.int .i64 y,.int .i64 z] 51)):=(Below.refl _ _).alloc (Nat.le_refl _) _;replace T:=ι (T.out.up hb);replace K:=ι (K.out.up hb);have A0:=ι (show CF (Fup F w (w.alloc (.cells #[.int .i64 x,.int .i64 y,.int .i64 z] 51))) (w.alloc (.cells #[.int .i64 x,.int .i64 y,.int .i64 z] 51)) w.heap.size 0 (.int .i64 x) from ⟨by rw [Rg.cellNew]; rfl,.inr ⟨Nat.le_refl _,by simp⟩,by simp⟩);have A1:=ι (show CF (Fup F w (w.alloc (.cells #[.int .i64 x,.int .i64 y,.int .i64 z] 51))) (w.alloc (.cells #[.int .i64 x,.int .i64 y,.int .i64 z] 51)) w.heap.size 1 (.int .i64 y) from ⟨by rw [Rg.cellNew]; rfl,.inr ⟨Nat.le_refl _,by simp⟩,by simp⟩);have A2:=ι (show CF (Fup F w (w.alloc (.cells #[.int .i64 x,.int .i64 y,.int .i64 z] 51))) (w.alloc (.cells #[.int .i64 x,.int .i64 y,.int .i64 z] 51)) w.heap.size 2 (.int .i64 z) from ⟨by rw [Rg.cellNew]; rfl,.inr ⟨Nat.le_refl _,by simp⟩,by simp⟩)
 clear h hn hb;obtain ⟨xb,hxb⟩:∃ b,b=w.heap.size:=⟨_,rfl⟩
 go_enter Tryz.func69,Tryz.ntmps69
 go_upto_region 0 with (fail);refine Rg.wl ?_;refine Rg.lr 3 (Rg.exec_box _ _ rfl rfl) ?_;go_frame;refine Rg.la 4 (.int .i64 0) ?_;go_frame;generalize Fup F w (w.alloc (.cells #[.int .i64 x,.int .i64 y,.int .i64 z] 51))=F1 at *;rw [← hxb] at A0 A1 A2;generalize w.alloc (.cells #[.int .i64 x,.int .i64 y,.int .i64 z] 51)=w0 at *;rw [← hxb];clear hxb;go_upto_region 1 with (fail);have hV0:Below w0.heap.size w0 w0.drew:=(Below.refl _ _).drew;replace T:=ι (T.out.up hV0);replace A0:=ι (A0.out.up hV0);replace A1:=ι (A1.out.up hV0);replace A2:=ι (A2.out.up hV0);replace K:=ι (K.out.up hV0);generalize Fup F1 w0 w0.drew=F2 at *;clear hV0;refine Rg.Any.begin (S:=Rg.Both 8 (fun W:World=>W.cell? ⟨tb,0,none⟩=some sv∧W.cell? ⟨xb,0,none⟩=some (.int .i64 x)∧W.cell? ⟨xb,1,none⟩=some (.int .i64 y)∧W.cell? ⟨xb,2,none⟩=some (.int .i64 z)) (fun _=>True)) mix ?_
 generalize w0.drew=w1 at *;have hS:∀ (l:Array Bool) W,(fun W:World=>W.cell? ⟨tb,0,none⟩=some sv∧W.cell? ⟨xb,0,none⟩=some (.int .i64 x)∧W.cell? ⟨xb,1,none⟩=some (.int .i64 y)∧W.cell? ⟨xb,2,none⟩=some (.int .i64 z)) W→Rg.Both 8 (fun W:World=>W.cell? ⟨tb,0,none⟩=some sv∧W.cell? ⟨xb,0,none⟩=some (.int .i64 x)∧W.cell? ⟨xb,1,none⟩=some (.int .i64 y)∧W.cell? ⟨xb,2,none⟩=some (.int .i64 z)) (fun _=>True) l W:=fun l W h=>⟨.inr h,trivial⟩;have hS2:∀ (l:Array Bool) W,l.getD 8 false=true→Rg.Both 8 (fun W:World=>W.cell? ⟨tb,0,none⟩=some sv∧W.cell? ⟨xb,0,none⟩=some (.int .i64 x)∧W.cell? ⟨xb,1,none⟩=some (.int .i64 y)∧W.cell? ⟨xb,2,none⟩=some (.int .i64 z)) (fun _=>True) l W:=fun l W h=>⟨.inl h,trivial⟩;have hI:(fun W:World=>W.cell? ⟨tb,0,none⟩=some sv∧W.cell? ⟨xb,0,none⟩=some (.int .i64 x)∧W.cell? ⟨xb,1,none⟩=some (.int .i64 y)∧W.cell? ⟨xb,2,none⟩=some (.int .i64 z)) w1:=⟨T.out.h0.c,A0.out.cell,A1.out.cell,A2.out.cell⟩
 refine Rg.tm 0 8 (.pointer (some ⟨tb,0,none⟩)) 5 (hS _ _ hI) ?_;go_frame;refine Rg.tm 1 8 (.pointer (some ⟨tb,0,none⟩)) 6 (hS _ _ hI) ?_;go_frame;refine Rg.tg 2 8 (.pointer (some ⟨tb,0,none⟩)) 7 rfl rfl (.inl ⟨rfl,fun w _=>exec_nil _ rfl rfl⟩) (hS _ _ hI) ?_;go_frame;refine Rg.tg 3 8 (.pointer (some ⟨tb,0,none⟩)) 8 rfl rfl (.inl ⟨rfl,fun w _=>exec_field _ rfl rfl (recF0 _ _)⟩) (hS _ _ hI) ?_;go_frame;refine Rg.Any.takeT (i:=4) (t:=8) (v:=sv) (some 9) rfl rfl (by kernel_rfl) (by kernel_rfl) (by kernel_rfl) (fun _ _ _ h=>h) rfl (by kernel_rfl) rfl (Rg.yields_cell _ _ rfl rfl ⟨tb,0,none⟩ rfl (fun W hW=>Rg.run_loadSl _ _ Tryz.underlying36 hW.1)) (hS _ _ hI) ?_;go_frame;refine Rg.Any.takeT (i:=5) (t:=8) (v:=(.agg #[.int .i64 x,.int .i64 y,.int .i64 z])) (some 10) rfl rfl (by kernel_rfl) (by kernel_rfl) (by kernel_rfl) (fun _ _ _ h=>h) rfl (by kernel_rfl) rfl (Rg.yields_cell _ _ rfl rfl ⟨xb,0,none⟩ rfl (fun W hW=>run_loadSt hW.2.1 hW.2.2.1 hW.2.2.2)) (hS _ _ hI) ?_;go_frame
 obtain ⟨a9,c9,X9,r1,hc9,hk9,hT9,hkp9,hst9⟩:=T.out.push (x,y,z) (by have:=HN.out; omega) 36;have hba:Below w1.heap.size w1 (w1.alloc (.cells #[.int .i64 x,.int .i64 y,.int .i64 z] 51)):=(Below.refl _ _).alloc (Nat.le_refl _) _;have hq0:sv.ownBlock≠some xb:=fun e=>T.out.nF xb A0.out.inF (.inr (.inr (.inl e)));have hI2_m:=(show (fun W:World=>W.cell? ⟨tb,0,none⟩=some sv∧W.cell? ⟨xb,0,none⟩=some (.int .i64 x)∧W.cell? ⟨xb,1,none⟩=some (.int .i64 y)∧W.cell? ⟨xb,2,none⟩=some (.int .i64 z)) (w1.alloc (.cells #[.int .i64 x,.int .i64 y,.int .i64 z] 51)) from ⟨(hba.cell (p:=⟨tb,0,none⟩) T.out.h0.lt).trans T.out.h0.c,(hba.cell (p:=⟨xb,0,none⟩) A0.out.lt).trans A0.out.cell,(hba.cell (p:=⟨xb,1,none⟩) A1.out.lt).trans A1.out.cell,(hba.cell (p:=⟨xb,2,none⟩) A2.out.lt).trans A2.out.cell⟩);refine Rg.Any.one (i:=6) (by kernel_rfl) (Rg.Any.run (some 11) rfl rfl rfl (Rg.exec_buildSlice _ _ _ rfl (.agg #[.int .i64 x,.int .i64 y,.int .i64 z]) rfl (run_build1St w1 x y z)) (hS _ _ hI2_m) ?_)
 go_frame;have hI3_m:=(show (fun W:World=>W.cell? ⟨tb,0,none⟩=some sv∧W.cell? ⟨xb,0,none⟩=some (.int .i64 x)∧W.cell? ⟨xb,1,none⟩=some (.int .i64 y)∧W.cell? ⟨xb,2,none⟩=some (.int .i64 z)) X9 from ⟨hc9.c,(World.cell?_of_block (a:=⟨xb,0,none⟩) (hk9.block xb A0.out.lt hq0)).trans A0.out.cell,(World.cell?_of_block (a:=⟨xb,1,none⟩) (hk9.block xb A1.out.lt hq0)).trans A1.out.cell,(World.cell?_of_block (a:=⟨xb,2,none⟩) (hk9.block xb A2.out.lt hq0)).trans A2.out.cell⟩);refine Rg.Any.one (i:=7) (by kernel_rfl) (Rg.Any.run (some 12) rfl rfl rfl (Rg.exec_append _ _ _ rfl rfl rfl r1) (hS _ _ hI3_m) ?_);go_frame;refine Rg.Any.one (i:=8) (by kernel_rfl) (Rg.Any.run (some 13) rfl rfl rfl (exec_nil _ rfl rfl) (hS2 _ _ rfl) ?_);go_frame;refine Rg.tg 9 8 (.pointer (some ⟨tb,0,none⟩)) 14 rfl rfl (.inl ⟨rfl,fun w _=>exec_field _ rfl rfl (recF0 _ _)⟩) (hS2 _ _ rfl) ?_;go_frame
 refine Rg.Any.one (i:=10) (by kernel_rfl) (Rg.Any.runSkip none rfl rfl rfl (Rg.exec_store _ _ _ rfl _ rfl _ rfl (Rg.run_storeSl _ infoStepsV hc9.c hc9.f)) (hS2 _ _ rfl) ?_);go_frame;refine Rg.Any.done (by kernel_rfl) ?_ _;clear hS2;clear hS hI3_m;replace K:=ι (K.out.trans (T.out.gw hkp9 hst9));replace T:=ι hT9;clear hT9 hkp9 hst9 hk9 hc9 r1 A0 A1 A2;generalize X9.setCell ⟨tb,0,none⟩ (.slice a9 (S.length+1) c9)=W5 at *;generalize Value.slice a9 (S.length+1) c9=sv9 at *;go_upto_region 2 with (fail);refine Rg.wl ?_;refine Rg.lm 15 (.pointer (some ⟨tb,0,none⟩)) ?_;go_frame;refine Rg.lr 16 (exec_nil _ rfl rfl) ?_;go_frame;refine Rg.lr 17 (exec_field _ rfl rfl (recF1 _ _)) ?_;go_frame;refine Rg.lr 18 (Rg.exec_load (v:=.int .i64 ((nx:Nat):Int)) _ _ rfl ⟨tb,1,none⟩ rfl (run_loadInt T.out.h1.c)) ?_;go_frame;refine Rg.lr 19 (exec_bin (R:=.int .i64 (((nx+1):Nat):Int)) .add _ _ _ rfl rfl rfl (b_add _ (by omega) (by omega))) ?_;go_frame
 refine Rg.lr 20 (exec_nil _ rfl rfl) ?_;go_frame;refine Rg.lr 21 (exec_field _ rfl rfl (recF1 _ _)) ?_;go_frame;obtain ⟨hT2,hkp2⟩:=T.out.next (nx+1);refine Rg.list_skip none rfl rfl (Rg.exec_store _ _ _ rfl _ rfl _ rfl (run_storeInt _ T.out.h1.c T.out.h1.f)) ?_;go_frame;replace K:=ι (K.out.trans (T.out.gw hkp2 (fun _=>.inl)));replace T:=ι hT2;clear hT2 hkp2;generalize W5.setCell ⟨tb,1,none⟩ (.int .i64 ((nx+1:Nat):Int))=W6 at *;go_upto_region 3 with (fail);refine Rg.wl ?_;refine Rg.lm 22 (.pointer (some ⟨tb,0,none⟩)) ?_;go_frame;refine Rg.lr 23 (exec_nil _ rfl rfl) ?_;go_frame;refine Rg.lr 24 (exec_field _ rfl rfl (recF1 _ _)) ?_;go_frame;refine Rg.lr 25 (Rg.exec_load (v:=.int .i64 (((nx+1):Nat):Int)) _ _ rfl ⟨tb,1,none⟩ rfl (run_loadInt T.out.h1.c)) ?_;go_frame;refine Rg.lr 26 (exec_bin (R:=.int .i64 ((nx:Nat):Int)) .sub _ _ _ rfl rfl rfl (b_sub _ (by omega) (by omega))) ?_;go_frame
 refine Rg.la 4 (.int .i64 ((nx:Nat):Int)) ?_;go_frame;go_wp2;go_ret;exact ⟨_,_,rfl,T.out,K.out⟩
def InvP (B:Nat) (F:Nat→Prop) (tb mb N:Nat) (gs:List (List Nat)) (S:List Stp) (T:List (List Nat)) (es:List En) (sv lv:Value) (x:List Nat) (w:World) (ed:Ending) (w':World):Prop :=
 ∃ (F':Nat→Prop) (sv':Value) (S':List Stp) (T':List (List Nat)) (es':List En) (k:Nat),ed=.returned (.int .i64 ((k:Nat):Int))∧T'[k]?=some (Ma.invN x)∧T <+: T'∧S'.length≤S.length+1∧Tb N gs S' T' es'∧trE es'=trE es∧es'.map (fun e=>(e.b,e.i,e.p,e.x,e.at_))=es.map (fun e=>(e.b,e.i,e.p,e.x,e.at_)) ∧
  TbM B F' tb mb N w' S' T'.length es' es' es' sv' lv∧Gw F (tbS tb mb es sv lv) w F' (tbS tb mb es' sv' lv) w'
theorem inverse_any {B:Nat} {F:Nat→Prop} {tb mb N:Nat} {w:World} {gs:List (List Nat)} {S:List Stp} {T:List (List Nat)} {es:List En} {sv lv:Value} (hp:Tb N gs S T es) (h:TbM B F tb mb N w S T.length es es es sv lv) {b:Nat} {x:List Nat} (hb:∃ e∈es,e.b=b∧e.x=x) (hn:T.length<100000) :
  Calls Tryz.prog 113 #[.pointer (some ⟨tb,0,none⟩),.pointer (some ⟨b,0,none⟩)] w (InvP B F tb mb N gs S T es sv lv x w):=by
 obtain ⟨e,he,rfl,rfl⟩:=hb
 have hsl:S.length<100000:=by have:=hp.sk.len; omega
 have HP:=ι hp;have TM:=ι h;have HE:=ι he;have EO:=ι (hp.en e he);have HN:=ι hn;have HSL:=ι hsl;have HNB:=ι h.ds.nb;have K:=ι (Gw.refl (M:=tbS tb mb es sv lv) h.Flt);obtain ⟨xv,yv,q0⟩:=h.en e he;have EA:=ι q0;obtain ⟨eb,heb⟩:∃ b,Hid (e.b=b):=⟨_,ι rfl⟩;obtain ⟨ek,hek⟩:∃ b,Hid (e.at_=b):=⟨_,ι rfl⟩;obtain ⟨ey,hey⟩:∃ b,Hid (e.by_=b):=⟨_,ι rfl⟩;have C2:=ι (show Cw w eb 2 (.int .i64 ((ek:Nat):Int)) by rw [← heb.out,← hek.out]; exact q0.c2);have C3:=ι (show Cw w eb 3 (.int .i64 ey) by rw [← heb.out,← hey.out]; exact q0.c3);rw [heb.out];clear hp h he hn hsl q0 EA
 go_enter Tryz.func113,Tryz.ntmps113
 go_upto_region 0 with (fail);refine Rg.wl ?_;refine Rg.la 4 (.int .i64 ((0:Nat):Int)) ?_;go_frame
 by_cases hy:ey<0
 case neg =>
  obtain ⟨k,hk,hkT⟩:∃ k:Nat,e.by_=((k:Nat):Int)∧T[k]?=some (Ma.invN e.x):=by
   rcases EO.out.by_ with h9 | h9
   ·rw [hey.out] at h9; omega
   ·exact h9
  have HKT:=ι hkT
  have hky:ey=((k:Nat):Int):=by rw [← hey.out]; exact hk
  clear hk hkT;subst hky;go_upto_region 1 with (fail);refine Rg.wl ?_;refine Rg.lm 5 (.pointer (some ⟨eb,0,none⟩)) ?_;go_frame;refine Rg.lr 6 (exec_nil _ rfl rfl) ?_;go_frame;refine Rg.lr 7 (exec_field _ rfl rfl (enF3 _ _)) ?_;go_frame;refine Rg.lr 8 (Rg.exec_load (v:=.int .i64 ((k:Nat):Int)) _ _ rfl ⟨eb,3,none⟩ rfl (run_loadInt C3.out.c)) ?_;go_frame;refine Rg.lr 9 (exec_bin (R:=.bool false) .lss _ _ _ rfl rfl rfl (b_lss _ (decide_eq_false hy))) ?_;go_frame;go_upto_region 3 with (fail);refine Rg.wl ?_;refine Rg.lm 22 (.pointer (some ⟨eb,0,none⟩)) ?_;go_frame;refine Rg.lr 23 (exec_nil _ rfl rfl) ?_;go_frame;refine Rg.lr 24 (exec_field _ rfl rfl (enF3 _ _)) ?_;go_frame;refine Rg.lr 25 (Rg.exec_load (v:=.int .i64 ((k:Nat):Int)) _ _ rfl ⟨eb,3,none⟩ rfl (run_loadInt C3.out.c)) ?_;go_frame;refine Rg.la 4 (.int .i64 ((k:Nat):Int)) ?_;go_frame;go_wp2;go_ret;exact ⟨F,sv,S,T,es,k,rfl,HKT.out,List.prefix_rfl,Nat.le_succ _,HP.out,rfl,rfl,TM.out,K.out⟩
 case pos =>
  skip
  go_upto_region 1 with (fail);refine Rg.wl ?_;refine Rg.lm 5 (.pointer (some ⟨eb,0,none⟩)) ?_;go_frame;refine Rg.lr 6 (exec_nil _ rfl rfl) ?_;go_frame;refine Rg.lr 7 (exec_field _ rfl rfl (enF3 _ _)) ?_;go_frame;refine Rg.lr 8 (Rg.exec_load (v:=.int .i64 ey) _ _ rfl ⟨eb,3,none⟩ rfl (run_loadInt C3.out.c)) ?_;go_frame;refine Rg.lr 9 (exec_bin (R:=.bool true) .lss _ _ _ rfl rfl rfl (b_lss _ (decide_eq_true hy))) ?_;go_frame;clear hy;have HC2:=ι ((show Below w.heap.size w w.drew from (Below.refl _ _).drew).cell (p:=⟨eb,2,none⟩) C2.out.lt);have HC3:=ι (C3.out.kp (M:=fun _=>False) (Rg.Kp.of_below (show Below w.heap.size w w.drew from (Below.refl _ _).drew)) id);go_upto_region 2 with (fail);have hV0:Below w.heap.size w w.drew:=(Below.refl _ _).drew;replace TM:=ι (TM.out.up hV0);replace K:=ι (K.out.up hV0);generalize Fup F w w.drew=F1 at *;clear hV0;refine Rg.Any.begin (S:=Rg.Both 8 (fun W:World=>W.cell? ⟨eb,2,none⟩=some (.int .i64 ((ek:Nat):Int))) (fun _=>True)) mix ?_
  generalize w.drew=w1 at *;have hS:∀ (l:Array Bool) W,(fun W:World=>W.cell? ⟨eb,2,none⟩=some (.int .i64 ((ek:Nat):Int))) W→Rg.Both 8 (fun W:World=>W.cell? ⟨eb,2,none⟩=some (.int .i64 ((ek:Nat):Int))) (fun _=>True) l W:=fun l W h=>⟨.inr h,trivial⟩;have hS2:∀ (l:Array Bool) W,l.getD 8 false=true→Rg.Both 8 (fun W:World=>W.cell? ⟨eb,2,none⟩=some (.int .i64 ((ek:Nat):Int))) (fun _=>True) l W:=fun l W h=>⟨.inl h,trivial⟩;have hI:(fun W:World=>W.cell? ⟨eb,2,none⟩=some (.int .i64 ((ek:Nat):Int))) w1:=HC2.out.trans C2.out.c;refine Rg.tm 0 8 (.pointer (some ⟨eb,0,none⟩)) 10 (hS _ _ hI) ?_;go_frame;refine Rg.tm 1 8 (.pointer (some ⟨tb,0,none⟩)) 11 (hS _ _ hI) ?_;go_frame;refine Rg.tg 2 8 (.pointer (some ⟨tb,0,none⟩)) 12 rfl rfl (.inl ⟨rfl,fun w _=>exec_nil _ rfl rfl⟩) (hS _ _ hI) ?_;go_frame;refine Rg.tg 3 8 (.pointer (some ⟨tb,0,none⟩)) 13 rfl rfl (.inl ⟨rfl,fun w _=>exec_field _ rfl rfl (tblF0 _ _)⟩) (hS _ _ hI) ?_;go_frame
  refine Rg.tm 4 8 (.pointer (some ⟨eb,0,none⟩)) 14 (hS _ _ hI) ?_;go_frame;refine Rg.tg 5 8 (.pointer (some ⟨eb,0,none⟩)) 15 rfl rfl (.inl ⟨rfl,fun w _=>exec_nil _ rfl rfl⟩) (hS _ _ hI) ?_;go_frame;refine Rg.tg 6 8 (.pointer (some ⟨eb,2,none⟩)) 16 rfl rfl (.inl ⟨rfl,fun w _=>exec_field _ rfl rfl (enF2 _ _)⟩) (hS _ _ hI) ?_;go_frame;refine Rg.Any.takeT (i:=7) (t:=8) (v:=.int .i64 ((ek:Nat):Int)) (some 17) rfl rfl (by kernel_rfl) (by kernel_rfl) (by kernel_rfl) (fun _ _ _ h=>h) rfl (by kernel_rfl) rfl (Rg.yields_cell _ _ rfl rfl ⟨eb,2,none⟩ rfl (fun W hW=>run_loadInt hW)) (hS _ _ hI) ?_;go_frame;refine Rg.Any.one (i:=8) (by kernel_rfl) (Rg.Any.run (some 18) rfl rfl rfl (exec_buildSi _ _ rfl rfl rfl) (hS2 _ _ rfl) ?_);go_frame;refine Rg.Any.one (i:=9) (by kernel_rfl) (Rg.Any.ask (some 19) rfl rfl rfl _ _ (exec_fn 69 _ _ _ rfl rfl rfl (Decl0 _ _)) ?_);refine (record_any TM.out 2 ((ek:Nat):Int) 0 HSL.out (by have:=HN.out; omega)).mono ?_
  rintro e1 w2 ⟨F9,sv9,rfl,hT9,hg9⟩;have hI2_k:=trivial;clear hI;refine ⟨_,rfl,(hS2 _ _ rfl),?_⟩;go_frame;replace TM:=ι hT9;replace K:=ι (K.out.trans hg9);clear hg9 hT9;refine Rg.tg 10 8 (.pointer (some ⟨eb,0,none⟩)) 20 rfl rfl (.inl ⟨rfl,fun w _=>exec_nil _ rfl rfl⟩) (hS2 _ _ rfl) ?_;go_frame;refine Rg.tg 11 8 (.pointer (some ⟨eb,3,none⟩)) 21 rfl rfl (.inl ⟨rfl,fun w _=>exec_field _ rfl rfl (enF3 _ _)⟩) (hS2 _ _ rfl) ?_;go_frame;obtain ⟨xv9,yv9,q9⟩:=TM.out.en e HE.out;have C39:=ι (show Cw w2 eb 3 (.int .i64 ey) by rw [← heb.out,← hey.out]; exact q9.c3);clear q9;obtain ⟨hT8,hkp8,hst8⟩:=TM.out.by HE.out ((T.length:Nat):Int);rw [heb.out] at hT8 hkp8 hst8;refine Rg.Any.one (i:=12) (by kernel_rfl) (Rg.Any.runSkip none rfl rfl rfl (Rg.exec_store _ _ _ rfl _ rfl _ rfl (run_storeInt _ C39.out.c C39.out.f)) (hS2 _ _ rfl) ?_);go_frame;refine Rg.Any.done (by kernel_rfl) ?_ _
  clear hS2;clear hS hI2_k;replace K:=ι (K.out.trans (TM.out.gw hkp8 (fun q hq=>.inl ((hst8 q).1 hq))));replace TM:=ι hT8;have C3N:=ι (show (w2.setCell ⟨eb,3,none⟩ (.int .i64 ((T.length:Nat):Int))).cell? ⟨eb,3,none⟩=some (.int .i64 ((T.length:Nat):Int)) from World.cell?_setCell_same (h:=C39.out.c) ..);generalize w2.setCell ⟨eb,3,none⟩ (.int .i64 ((T.length:Nat):Int))=W7 at *;have hmk:=HP.out.sk.inv EO.out.at_;have hpre:T <+: T++[Ma.invN e.x]:=⟨_,rfl⟩;have hlast:=at_last (T:=T) (Ma.invN e.x)
  have HP2:=ι ((HP.out.grow hmk hpre).setBy (b:=eb) (k:=T.length) (fun e0 h0 hb0=>by
   have h1:e0=e:=eb_inj HNB.out h0 HE.out (by rw [hb0,heb.out])
   rw [h1]; exact hlast))
  rw [hek.out] at hmk HP2;go_upto_region 3 with (fail);refine Rg.wl ?_;refine Rg.lm 22 (.pointer (some ⟨eb,0,none⟩)) ?_;go_frame;refine Rg.lr 23 (exec_nil _ rfl rfl) ?_;go_frame;refine Rg.lr 24 (exec_field _ rfl rfl (enF3 _ _)) ?_;go_frame;refine Rg.lr 25 (Rg.exec_load (v:=.int .i64 ((T.length:Nat):Int)) _ _ rfl ⟨eb,3,none⟩ rfl (run_loadInt C3N.out)) ?_;go_frame;refine Rg.la 4 (.int .i64 ((T.length:Nat):Int)) ?_;go_frame;go_wp2;go_ret;refine ⟨_,sv9,_,_,_,T.length,rfl,hlast,hpre,?_,HP2.out,?_,?_,?_,K.out⟩
  ·rw [List.length_append]; exact Nat.le_refl _
  ·exact setBy_tr _ _ _
  ·exact setBy_all _ _ _
  ·rw [List.length_append]; exact TM.out

theorem clIns1 (args:Array Value) (w:World):(callFunc 115 args).run Tryz.prog w=.ok (.enter 115 args) w:=by kernel_rfl
theorem clPro1 (args:Array Value) (w:World):(callFunc 68 args).run Tryz.prog w=.ok (.enter 68 args) w:=by kernel_rfl
def RdV (M:Nat→Prop) (W:World) (ad:Option Addr) (us:List Value):Prop:=0<us.length→∃ g o,ad=some ⟨g,o,none⟩∧g<W.heap.size∧¬ M g∧∀ i (h:i<us.length),W.cell? ⟨g,o+i,none⟩=some us[i]
theorem RdV.kp {M M' N:Nat→Prop} {w w':World} {ad:Option Addr} {us:List Value} (h:RdV M w ad us) (hk:Rg.Kp N w w') (h1:∀ k,k<w.heap.size→N k→M k) (h2:∀ k,k<w.heap.size→M' k→M k):RdV M' w' ad us:=fun h0=>by
 obtain ⟨g,o,e,hg,hm,hc⟩:=h h0;exact ⟨g,o,e,Nat.lt_of_lt_of_le hg hk.size,fun q=>hm (h2 g hg q),fun i hi=>(World.cell?_of_block (a:=⟨g,o+i,none⟩) (hk.block g hg (fun q=>hm (h1 g hg q)))).trans (hc i hi)⟩
theorem RdV.gw {F M F' M':Nat→Prop} {w w':World} {ad:Option Addr} {us:List Value} (h:RdV M w ad us) (hg:Gw F M w F' M' w'):RdV M' w' ad us :=
 h.kp hg.kp (fun _ _ e=>e) (fun k hk e=>(hg.nM k e).elim id (fun q=>absurd hk (by omega)))
theorem RdV.below {M:Nat→Prop} {w w':World} {ad:Option Addr} {us:List Value} (h:RdV M w ad us) (hb:Below w.heap.size w w'):RdV M w' ad us :=
 h.kp (N:=fun _=>False) (Rg.Kp.of_below hb) (fun _ _=>False.elim) (fun _ _ e=>e)
theorem ins1_any {B:Nat} {F:Nat→Prop} {tb mb N tp:Nat} {w:World} {S:List Stp} {nx:Nat} {es:List En} {sv lv:Value} (h:TbM B F tb mb N w S nx es es es sv lv) (hc:CF F w tp 0 (.pointer (some ⟨tb,0,none⟩))) (x y:Int) (hn:S.length<100000) (hx:nx<1000000) :
  Calls Tryz.prog 115 #[.int .i64 x,.int .i64 y,.pointer (some ⟨tp,0,none⟩)] w (RecP B F tb mb N S nx es sv lv (1,x,y) w):=by
 have T:=ι h;have C:=ι hc;have HN:=ι hn;have HX:=ι hx;clear h hc hn hx
 go_enter Tryz.func115,Tryz.ntmps115
 go_upto_region 0 with (fail);refine Rg.wl ?_;refine Rg.la 5 (.int .i64 ((0:Nat):Int)) ?_;go_frame;go_upto_region 1 with (fail);refine Rg.wl ?_;refine Rg.lr 6 (Rg.exec_load (v:=.pointer (some ⟨tb,0,none⟩)) _ _ rfl ⟨tp,0,none⟩ rfl (Rg.run_loadPtr _ _ Tryz.underlying98 C.out.cell)) ?_;go_frame;refine Rg.lr 7 (exec_nil _ rfl rfl) ?_;go_frame;refine Rg.lr 8 (exec_field _ rfl rfl (tblF0 _ _)) ?_;go_frame;refine Rg.lm 9 (.int .i64 x) ?_;go_frame;refine Rg.lm 10 (.int .i64 y) ?_;go_frame;refine Rg.lr 11 (exec_buildSm _ _ _ rfl rfl rfl rfl) ?_;go_frame;refine Rg.lk 12 (exec_fn 69 _ _ _ rfl rfl rfl (Decl0 _ _)) ?_;refine (record_any T.out 1 x y HN.out HX.out).mono ?_;rintro e1 w1 ⟨F9,sv9,rfl,hT9,hg9⟩;have hg9x:=hg9;refine ⟨_,rfl,?_⟩;go_frame;clear hg9x;refine Rg.la 5 (.int .i64 ((nx:Nat):Int)) ?_;go_frame;go_wp2;go_ret;exact ⟨_,_,rfl,hT9,hg9⟩
theorem pro1_any {B:Nat} {F:Nat→Prop} {tb mb N tp:Nat} {w:World} {S:List Stp} {nx:Nat} {es:List En} {sv lv:Value} (h:TbM B F tb mb N w S nx es es es sv lv) (hc:CF F w tp 0 (.pointer (some ⟨tb,0,none⟩))) (x:Int) {e:En} (he:e∈es) (hn:S.length<100000) (hx:nx<1000000) :
  Calls Tryz.prog 68 #[.int .i64 x,.pointer (some ⟨e.b,0,none⟩),.pointer (some ⟨tp,0,none⟩)] w (RecP B F tb mb N S nx es sv lv (1,x,((e.at_:Nat):Int)) w):=by
 have TM:=ι h;have C:=ι hc;have HN:=ι hn;have HX:=ι hx;have K:=ι (Gw.refl (M:=tbS tb mb es sv lv) h.Flt);obtain ⟨xv,yv,q0⟩:=h.en e he;obtain ⟨eb,heb⟩:∃ b,Hid (e.b=b):=⟨_,ι rfl⟩;obtain ⟨ek,hek⟩:∃ b,Hid (e.at_=b):=⟨_,ι rfl⟩;have C2:=ι (show Cw w eb 2 (.int .i64 ((ek:Nat):Int)) by rw [← heb.out,← hek.out]; exact q0.c2);have HC2:=ι ((show Below w.heap.size w w.drew from (Below.refl _ _).drew).cell (p:=⟨eb,2,none⟩) C2.out.lt);rw [heb.out,hek.out];have HE:=ι he;clear h hc hn hx he q0
 go_enter Tryz.func68,Tryz.ntmps68
 go_upto_region 0 with (fail);refine Rg.wl ?_;refine Rg.la 5 (.int .i64 ((0:Nat):Int)) ?_;go_frame;go_upto_region 1 with (fail);have hV0:Below w.heap.size w w.drew:=(Below.refl _ _).drew;replace TM:=ι (TM.out.up hV0);replace C:=ι (C.out.up hV0);replace K:=ι (K.out.up hV0);generalize Fup F w w.drew=F1 at *;clear hV0;refine Rg.Any.begin (S:=Rg.Both 10 (fun W:World=>W.cell? ⟨tp,0,none⟩=some (.pointer (some ⟨tb,0,none⟩))∧W.cell? ⟨eb,2,none⟩=some (.int .i64 ((ek:Nat):Int))) (fun _=>True)) mix ?_;generalize w.drew=w1 at *;have hS:∀ (l:Array Bool) W,(fun W:World=>W.cell? ⟨tp,0,none⟩=some (.pointer (some ⟨tb,0,none⟩))∧W.cell? ⟨eb,2,none⟩=some (.int .i64 ((ek:Nat):Int))) W→Rg.Both 10 (fun W:World=>W.cell? ⟨tp,0,none⟩=some (.pointer (some ⟨tb,0,none⟩))∧W.cell? ⟨eb,2,none⟩=some (.int .i64 ((ek:Nat):Int))) (fun _=>True) l W:=fun l W h=>⟨.inr h,trivial⟩
 have hS2:∀ (l:Array Bool) W,l.getD 10 false=true→Rg.Both 10 (fun W:World=>W.cell? ⟨tp,0,none⟩=some (.pointer (some ⟨tb,0,none⟩))∧W.cell? ⟨eb,2,none⟩=some (.int .i64 ((ek:Nat):Int))) (fun _=>True) l W:=fun l W h=>⟨.inl h,trivial⟩;have hI:(fun W:World=>W.cell? ⟨tp,0,none⟩=some (.pointer (some ⟨tb,0,none⟩))∧W.cell? ⟨eb,2,none⟩=some (.int .i64 ((ek:Nat):Int))) w1:=⟨C.out.cell,HC2.out.trans C2.out.c⟩;refine Rg.Any.takeT (i:=0) (t:=10) (v:=.pointer (some ⟨tb,0,none⟩)) (some 6) rfl rfl (by kernel_rfl) (by kernel_rfl) (by kernel_rfl) (fun _ _ _ h=>h) rfl (by kernel_rfl) rfl (Rg.yields_cell _ _ rfl rfl ⟨tp,0,none⟩ rfl (fun W hW=>Rg.run_loadPtr _ _ Tryz.underlying98 hW.1)) (hS _ _ hI) ?_;go_frame;refine Rg.tg 1 10 (.pointer (some ⟨tb,0,none⟩)) 7 rfl rfl (.inl ⟨rfl,fun w _=>exec_nil _ rfl rfl⟩) (hS _ _ hI) ?_;go_frame;refine Rg.tg 2 10 (.pointer (some ⟨tb,0,none⟩)) 8 rfl rfl (.inl ⟨rfl,fun w _=>exec_field _ rfl rfl (tblF0 _ _)⟩) (hS _ _ hI) ?_;go_frame
 refine Rg.tm 3 10 (.int .i64 x) 9 (hS _ _ hI) ?_;go_frame;refine Rg.tm 4 10 (.pointer (some ⟨eb,0,none⟩)) 10 (hS _ _ hI) ?_;go_frame;refine Rg.tg 5 10 (.pointer (some ⟨eb,0,none⟩)) 11 rfl rfl (.inl ⟨rfl,fun w _=>exec_nil _ rfl rfl⟩) (hS _ _ hI) ?_;go_frame;refine Rg.tg 6 10 (.pointer (some ⟨eb,2,none⟩)) 12 rfl rfl (.inl ⟨rfl,fun w _=>exec_field _ rfl rfl (enF2 _ _)⟩) (hS _ _ hI) ?_;go_frame;refine Rg.Any.takeT (i:=7) (t:=10) (v:=.int .i64 ((ek:Nat):Int)) (some 13) rfl rfl (by kernel_rfl) (by kernel_rfl) (by kernel_rfl) (fun _ _ _ h=>h) rfl (by kernel_rfl) rfl (Rg.yields_cell _ _ rfl rfl ⟨eb,2,none⟩ rfl (fun W hW=>run_loadInt hW.2)) (hS _ _ hI) ?_;go_frame;refine Rg.tg 8 10 ((.agg #[.int .i64 1,.int .i64 x,.int .i64 ((ek:Nat):Int)])) 14 rfl rfl (.inl ⟨rfl,fun w _=>exec_buildSm _ _ _ rfl rfl rfl rfl⟩) (hS _ _ hI) ?_;go_frame;refine Rg.Any.one (i:=9) (by kernel_rfl) (Rg.Any.ask (some 15) rfl rfl rfl _ _ (exec_fn 69 _ _ _ rfl rfl rfl (Decl0 _ _)) ?_)
 refine (record_any TM.out 1 x ((ek:Nat):Int) HN.out HX.out).mono ?_;rintro e1 w2 ⟨F9,sv9,rfl,hT9,hg9⟩;have hg9x:=hg9;have hC9:=C.out.kg hg9.kg;obtain ⟨xv9,yv9,q9⟩:=hT9.en e HE.out;have HK9:=(show (fun W:World=>W.cell? ⟨tp,0,none⟩=some (.pointer (some ⟨tb,0,none⟩))∧W.cell? ⟨eb,2,none⟩=some (.int .i64 ((ek:Nat):Int))) w2 from ⟨(C.out.kg hg9.kg).cell,by rw [← heb.out,← hek.out]; exact q9.c2.c⟩);have hI2_k:=HK9;clear hI;refine ⟨_,rfl,(hS _ _ hI2_k),?_⟩;go_frame;replace TM:=ι hT9;replace C:=ι hC9;replace K:=ι (K.out.trans hg9x);clear hg9x hT9 hC9;refine Rg.Any.one (i:=10) (by kernel_rfl) (Rg.Any.run (some 5) rfl rfl rfl (Rg.xa (.int .i64 ((nx:Nat):Int)) _ rfl rfl) (hS2 _ _ rfl) ?_);go_frame;refine Rg.Any.done (by kernel_rfl) ?_ _;clear hS2;clear hS hI2_k;go_wp2;go_ret;exact ⟨_,_,rfl,TM.out,K.out⟩
def FoP (B:Nat) (F:Nat→Prop) (tb mb N:Nat) (gs:List (List Nat)) (S:List Stp) (T:List (List Nat)) (es:List En) (sv lv:Value) (n:Nat) (y:List Nat) (w:World) (ed:Ending) (w':World):Prop :=
 ∃ (F':Nat→Prop) (sv':Value) (S':List Stp) (T':List (List Nat)) (a:Nat),ed=.returned (.int .i64 ((a:Nat):Int))∧T'[a]?=some y∧T <+: T'∧S'.length=S.length+n∧Mk N gs S' T'∧(0<n→a+1=T'.length) ∧
  TbM B F' tb mb N w' S' T'.length es es es sv' lv∧Gw F (tbS tb mb es sv lv) w F' (tbS tb mb es sv' lv) w'
theorem foldTI_any {B:Nat} {F:Nat→Prop} {tb mb N tp:Nat} {w:World} {gs:List (List Nat)} {S:List Stp} {T:List (List Nat)} {es:List En} {sv lv:Value} (hm:Mk N gs S T) (h:TbM B F tb mb N w S T.length es es es sv lv) (hc:CF F w tp 0 (.pointer (some ⟨tb,0,none⟩)))
  {l:List Nat} {ad:Option Addr} {cap a0:Nat} {y0:List Nat} (hl:∀ k∈l,∃ z,T[k]?=some z) (ha:T[a0]?=some y0) (hr:RdV (tbS tb mb es sv lv) w ad (l.map fun k:Nat=>Value.int .i64 ((k:Nat):Int))) (hn:T.length+l.length<100000) :
  Calls Tryz.prog 114 #[.slice ad l.length cap,.int .i64 ((a0:Nat):Int),(.func (.func 115) #[] #[.pointer (some ⟨tp,0,none⟩)])] w (FoP B F tb mb N gs S T es sv lv l.length (l.foldl (fun y (k:Nat)=>Ma.mulN y (T.getD k [])) y0) w):=by
 have HL:=ι hl;have HN:=ι hn;have HM0:=ι hm.len;have MK:=ι hm;have TM:=ι h;have C:=ι hc;have RD:=ι hr;have HA:=ι (show T[a0]?=some ((l.take 0).foldl (fun y (k:Nat)=>Ma.mulN y (T.getD k [])) y0) from ha);have HP:=ι (show T <+: T from List.prefix_rfl);have HS:=ι (show S.length=S.length+0 from rfl);have HE:=ι (show 0<0→a0+1=T.length from fun h=>absurd h (Nat.lt_irrefl 0));have K:=ι (Gw.refl (M:=tbS tb mb es sv lv) h.Flt);obtain ⟨m,hm⟩:∃ m,Hid (l.length=m):=⟨_,ι rfl⟩;rw [hm.out]
 have hm5:m<100000:=by have:=hm.out; omega
 clear hl hn h hc hr ha
 go_enter Tryz.func114,Tryz.ntmps114
 go_upto_region 0 with (fail);refine Rg.wl ?_;refine Rg.la 6 (.int .i64 ((0:Nat):Int)) ?_;go_frame;go_upto_region 1 with (fail);refine Rg.wl ?_;refine Rg.lm 9 (.slice ad m cap) ?_;go_frame;refine Rg.lr 10 (exec_len _ _ _ rfl Tryz.underlying25 _ _ _ rfl) ?_;go_frame;refine Rg.lm 11 (.int .i64 ((0:Nat):Int)) ?_;go_frame;go_wp2
 go_loopw [1,11] (fun vv iv wr=>∃ (i a:Nat) (F1:Nat→Prop) (sv1:Value) (S1:List Stp) (T1:List (List Nat)),vv=.int .i64 ((a:Nat):Int)∧iv=.int .i64 ((i:Nat):Int)∧i≤m∧Hid (T1[a]?=some ((l.take i).foldl (fun y (k:Nat)=>Ma.mulN y (T.getD k [])) y0))∧Hid (T <+: T1)∧Hid (S1.length=S.length+i)∧Hid (0<i→a+1=T1.length)∧Hid (Mk N gs S1 T1)∧Hid (TbM B F1 tb mb N wr S1 T1.length es es es sv1 lv)∧Hid (Gw F (tbS tb mb es sv lv) w F1 (tbS tb mb es sv1 lv) wr)∧Hid (CF F1 wr tp 0 (.pointer (some ⟨tb,0,none⟩)))∧Hid (RdV (tbS tb mb es sv1 lv) wr ad (l.map fun k:Nat=>Value.int .i64 ((k:Nat):Int)))) (fun _ iv _=>m - (intOf iv).toNat)
 case atStart=>exact ⟨0,a0,F,sv,S,T,rfl,rfl,Nat.zero_le _,HA,HP,HS,HE,MK,TM,K,C,RD⟩
 case round =>
  clear HA HP HS HE MK TM K C RD;obtain ⟨i,a,F1,sv1,S1,T1,rfl,rfl,hi,HA,HP,HS,HE,MK,TM,K,C,RD⟩:=hrel
  by_cases hil:i<m
  case neg =>
   have HT:=ι (show l.take i=l from List.take_of_length_le (by have:=hm.out; omega))
   have hie:i=m:=by omega
   subst hie;go_upto_region 2 with (fail);refine Rg.wl ?_;refine Rg.lr 12 (exec_bin (R:=.bool false) .lss _ _ _ rfl rfl rfl (b_lss _ Rg.dF)) ?_;go_frame;go_upto_region 6 with (fail);refine Rg.wl ?_;refine Rg.lm 20 (.int .i64 ((a:Nat):Int)) ?_;go_frame;refine Rg.la 6 (.int .i64 ((a:Nat):Int)) ?_;go_frame;go_wp2;go_ret;exact ⟨_,_,_,_,a,rfl,by have:=HA.out; rwa [HT.out] at this,HP.out,HS.out,MK.out,HE.out,TM.out,K.out⟩
  case pos =>
   have HIL:=ι hil
   have hiS:i<l.length:=by rw [hm.out]; exact hil
   obtain ⟨g,o,e1,hg,-,hc⟩:=RD.out (by rw [List.length_map]; omega);subst e1;obtain ⟨x,hx⟩:∃ x,Hid (l[i]'hiS=x):=⟨_,ι rfl⟩;have hc:=hc i (by rw [List.length_map]; exact hiS);rw [List.getElem_map,hx.out] at hc;have CX:=ι (CL.mk hc hg);have HXL:=ι (HL.out x (hx.out▸List.getElem_mem hiS));have HLN:=ι (show S1.length<100000∧T1.length<100000 by have:=MK.out.len; have:=HM0.out; have:=HS.out; have:=HN.out; have:=hm.out; omega);have HNX:=ι (show (l.take (i+1)).foldl (fun y (k:Nat)=>Ma.mulN y (T.getD k [])) y0=(fun y (k:Nat)=>Ma.mulN y (T.getD k [])) ((l.take i).foldl (fun y (k:Nat)=>Ma.mulN y (T.getD k [])) y0) x by rw [List.take_succ_eq_append_getElem hiS,hx.out,List.foldl_append]; rfl);clear hc hg;go_upto_region 2 with (fail);refine Rg.wl ?_;refine Rg.lr 12 (exec_bin (R:=.bool true) .lss _ _ _ rfl rfl rfl (b_lss _ Rg.dT)) ?_;go_frame
   go_upto_region 3 with (fail);refine Rg.wl ?_;refine Rg.lr 13 (exec_indexS slInts _ _ rfl g (o) (m) cap (i) rfl rfl HIL.out) ?_;go_frame;refine Rg.lr 14 (Rg.exec_load (v:=.int .i64 ((x:Nat):Int)) _ _ rfl ⟨g,o+i,none⟩ rfl (run_loadInt CX.out.cell)) ?_;go_frame;refine Rg.la 8 (.int .i64 ((x:Nat):Int)) ?_;go_frame;go_upto_region 4 with (fail);refine Rg.wl ?_;refine Rg.lm 15 ((.func (.func 115) #[] #[.pointer (some ⟨tp,0,none⟩)])) ?_;go_frame;refine Rg.lm 16 (.int .i64 ((a:Nat):Int)) ?_;go_frame;refine Rg.lm 17 (.int .i64 ((x:Nat):Int)) ?_;go_frame;refine Rg.lk 18 (exec_fnc2 115 _ _ _ _ rfl rfl rfl rfl (clIns1 _ _)) ?_;refine (ins1_any TM.out C.out ((a:Nat):Int) ((x:Nat):Int) HLN.out.1 (by have:=HLN.out.2; omega)).mono ?_;rintro e1 w21 ⟨F9,sv9,rfl,hT9,hg9⟩;have hg9x:=hg9;refine ⟨_,rfl,?_⟩;go_frame;clear hg9x;refine Rg.la 1 (.int .i64 ((T1.length:Nat):Int)) ?_;go_frame
   have hz:T1[x]?=some (T.getD x []):=by
    obtain ⟨z,hz⟩:=HXL.out;rw [List.getD_eq_getElem?_getD,hz];exact pre_at HP.out hz
   have hmk:=MK.out.mul HA.out hz
   have hal:(T1++[Ma.mulN ((l.take i).foldl (fun y (k:Nat)=>Ma.mulN y (T.getD k [])) y0) (T.getD x [])])[T1.length]?=some ((l.take (i+1)).foldl (fun y (k:Nat)=>Ma.mulN y (T.getD k [])) y0):=by rw [HNX.out]; exact at_last _
   have HA2:=ι hal;have HP2:=ι (show T <+: T1++[Ma.mulN ((l.take i).foldl (fun y (k:Nat)=>Ma.mulN y (T.getD k [])) y0) (T.getD x [])] from HP.out.trans ⟨_,rfl⟩);have HS2:=ι (show (S1++[((1:Int),((a:Nat):Int),((x:Nat):Int))]).length=S.length+(i+1) by rw [List.length_append,HS.out]; rfl);have HE2:=ι (show 0<i+1→T1.length+1=(T1++[Ma.mulN ((l.take i).foldl (fun y (k:Nat)=>Ma.mulN y (T.getD k [])) y0) (T.getD x [])]).length from fun _=>by rw [List.length_append]; rfl);have MK2:=ι hmk;have TM2:=ι (show TbM B F9 tb mb N _ _ (T1++[Ma.mulN ((l.take i).foldl (fun y (k:Nat)=>Ma.mulN y (T.getD k [])) y0) (T.getD x [])]).length es es es sv9 lv by rw [List.length_append]; exact hT9);have K2:=ι (K.out.trans hg9);have C2:=ι (C.out.kg hg9.kg);have RD2:=ι (RD.out.gw hg9);clear hz hmk hal hT9 hg9 HA HP HS HE MK TM K C RD CX HNX;go_upto_region 5 with (fail)
   refine Rg.wl ?_;refine Rg.lr 19 (exec_bin (R:=.int .i64 (((i+1):Nat):Int)) .add _ _ _ rfl rfl rfl (b_add _ (by omega) (by omega))) ?_;go_frame;refine Rg.lm 11 (.int .i64 (((i+1):Nat):Int)) ?_;go_frame;go_wp2
   go_roundw
   case rel=>exact ⟨i+1,_,_,_,_,_,rfl,by go_num,HIL.out,HA2,HP2,HS2,HE2,MK2,TM2,K2,C2,RD2⟩
   case measure=>simp [intOf]; have:=HIL.out; omega
theorem foldTE_any {B:Nat} {F:Nat→Prop} {tb mb N tp:Nat} {w:World} {gs:List (List Nat)} {S:List Stp} {T:List (List Nat)} {es:List En} {sv lv:Value} (hm:Mk N gs S T) (h:TbM B F tb mb N w S T.length es es es sv lv) (hc:CF F w tp 0 (.pointer (some ⟨tb,0,none⟩)))
  {l:List En} {ad:Option Addr} {cap a0:Nat} {y0:List Nat} (hl:∀ e∈l,e∈es∧T[e.at_]?=some e.x) (ha:T[a0]?=some y0) (hr:RdV (tbS tb mb es sv lv) w ad (l.map enP)) (hn:T.length+l.length<100000) :
  Calls Tryz.prog 67 #[.slice ad l.length cap,.int .i64 ((a0:Nat):Int),(.func (.func 68) #[] #[.pointer (some ⟨tp,0,none⟩)])] w (FoP B F tb mb N gs S T es sv lv l.length (l.foldl (fun y (e:En)=>Ma.mulN y e.x) y0) w):=by
 have HL:=ι hl;have HN:=ι hn;have HM0:=ι hm.len;have MK:=ι hm;have TM:=ι h;have C:=ι hc;have RD:=ι hr;have HA:=ι (show T[a0]?=some ((l.take 0).foldl (fun y (e:En)=>Ma.mulN y e.x) y0) from ha);have HP:=ι (show T <+: T from List.prefix_rfl);have HS:=ι (show S.length=S.length+0 from rfl);have HE:=ι (show 0<0→a0+1=T.length from fun h=>absurd h (Nat.lt_irrefl 0));have K:=ι (Gw.refl (M:=tbS tb mb es sv lv) h.Flt);obtain ⟨m,hm⟩:∃ m,Hid (l.length=m):=⟨_,ι rfl⟩;rw [hm.out]
 have hm5:m<100000:=by have:=hm.out; omega
 clear hl hn h hc hr ha
 go_enter Tryz.func67,Tryz.ntmps67
 go_upto_region 0 with (fail);refine Rg.wl ?_;refine Rg.la 6 (.int .i64 ((0:Nat):Int)) ?_;go_frame;go_upto_region 1 with (fail);refine Rg.wl ?_;refine Rg.lm 9 (.slice ad m cap) ?_;go_frame;refine Rg.lr 10 (exec_len _ _ _ rfl Tryz.underlying102 _ _ _ rfl) ?_;go_frame;refine Rg.lm 11 (.int .i64 ((0:Nat):Int)) ?_;go_frame;go_wp2
 go_loopw [1,11] (fun vv iv wr=>∃ (i a:Nat) (F1:Nat→Prop) (sv1:Value) (S1:List Stp) (T1:List (List Nat)),vv=.int .i64 ((a:Nat):Int)∧iv=.int .i64 ((i:Nat):Int)∧i≤m∧Hid (T1[a]?=some ((l.take i).foldl (fun y (e:En)=>Ma.mulN y e.x) y0))∧Hid (T <+: T1)∧Hid (S1.length=S.length+i)∧Hid (0<i→a+1=T1.length)∧Hid (Mk N gs S1 T1)∧Hid (TbM B F1 tb mb N wr S1 T1.length es es es sv1 lv)∧Hid (Gw F (tbS tb mb es sv lv) w F1 (tbS tb mb es sv1 lv) wr)∧Hid (CF F1 wr tp 0 (.pointer (some ⟨tb,0,none⟩)))∧Hid (RdV (tbS tb mb es sv1 lv) wr ad (l.map enP))) (fun _ iv _=>m - (intOf iv).toNat)
 case atStart=>exact ⟨0,a0,F,sv,S,T,rfl,rfl,Nat.zero_le _,HA,HP,HS,HE,MK,TM,K,C,RD⟩
 case round =>
  clear HA HP HS HE MK TM K C RD;obtain ⟨i,a,F1,sv1,S1,T1,rfl,rfl,hi,HA,HP,HS,HE,MK,TM,K,C,RD⟩:=hrel
  by_cases hil:i<m
  case neg =>
   have HT:=ι (show l.take i=l from List.take_of_length_le (by have:=hm.out; omega))
   have hie:i=m:=by omega
   subst hie;go_upto_region 2 with (fail);refine Rg.wl ?_;refine Rg.lr 12 (exec_bin (R:=.bool false) .lss _ _ _ rfl rfl rfl (b_lss _ Rg.dF)) ?_;go_frame;go_upto_region 6 with (fail);refine Rg.wl ?_;refine Rg.lm 20 (.int .i64 ((a:Nat):Int)) ?_;go_frame;refine Rg.la 6 (.int .i64 ((a:Nat):Int)) ?_;go_frame;go_wp2;go_ret;exact ⟨_,_,_,_,a,rfl,by have:=HA.out; rwa [HT.out] at this,HP.out,HS.out,MK.out,HE.out,TM.out,K.out⟩
  case pos =>
   have HIL:=ι hil
   have hiS:i<l.length:=by rw [hm.out]; exact hil
   obtain ⟨g,o,e1,hg,-,hc⟩:=RD.out (by rw [List.length_map]; omega);subst e1;obtain ⟨x,hx⟩:∃ x,Hid (l[i]'hiS=x):=⟨_,ι rfl⟩;have hc:=hc i (by rw [List.length_map]; exact hiS);rw [List.getElem_map,hx.out] at hc;have CX:=ι (CL.mk hc hg);have HXL:=ι (HL.out x (hx.out▸List.getElem_mem hiS));have HLN:=ι (show S1.length<100000∧T1.length<100000 by have:=MK.out.len; have:=HM0.out; have:=HS.out; have:=HN.out; have:=hm.out; omega);have HNX:=ι (show (l.take (i+1)).foldl (fun y (e:En)=>Ma.mulN y e.x) y0=(fun y (e:En)=>Ma.mulN y e.x) ((l.take i).foldl (fun y (e:En)=>Ma.mulN y e.x) y0) x by rw [List.take_succ_eq_append_getElem hiS,hx.out,List.foldl_append]; rfl);clear hc hg;go_upto_region 2 with (fail);refine Rg.wl ?_;refine Rg.lr 12 (exec_bin (R:=.bool true) .lss _ _ _ rfl rfl rfl (b_lss _ Rg.dT)) ?_;go_frame;go_upto_region 3 with (fail)
   refine Rg.wl ?_;refine Rg.lr 13 (exec_indexS slEnts _ _ rfl g (o) (m) cap (i) rfl rfl HIL.out) ?_;go_frame;refine Rg.lr 14 (Rg.exec_load (v:=.pointer (some ⟨x.b,0,none⟩)) _ _ rfl ⟨g,o+i,none⟩ rfl (Rg.run_loadPtr _ _ Tryz.underlying110 CX.out.cell)) ?_;go_frame;refine Rg.la 8 (.pointer (some ⟨x.b,0,none⟩)) ?_;go_frame;go_upto_region 4 with (fail);refine Rg.wl ?_;refine Rg.lm 15 ((.func (.func 68) #[] #[.pointer (some ⟨tp,0,none⟩)])) ?_;go_frame;refine Rg.lm 16 (.int .i64 ((a:Nat):Int)) ?_;go_frame;refine Rg.lm 17 (.pointer (some ⟨x.b,0,none⟩)) ?_;go_frame;refine Rg.lk 18 (exec_fnc2 68 _ _ _ _ rfl rfl rfl rfl (clPro1 _ _)) ?_;refine (pro1_any TM.out C.out ((a:Nat):Int) HXL.out.1 HLN.out.1 (by have:=HLN.out.2; omega)).mono ?_;rintro e1 w21 ⟨F9,sv9,rfl,hT9,hg9⟩;have hg9x:=hg9;refine ⟨_,rfl,?_⟩;go_frame;clear hg9x;refine Rg.la 1 (.int .i64 ((T1.length:Nat):Int)) ?_;go_frame
   have hz:T1[x.at_]?=some x.x:=by
    exact pre_at HP.out HXL.out.2
   have hmk:=MK.out.mul HA.out hz
   have hal:(T1++[Ma.mulN ((l.take i).foldl (fun y (e:En)=>Ma.mulN y e.x) y0) x.x])[T1.length]?=some ((l.take (i+1)).foldl (fun y (e:En)=>Ma.mulN y e.x) y0):=by rw [HNX.out]; exact at_last _
   have HA2:=ι hal;have HP2:=ι (show T <+: T1++[Ma.mulN ((l.take i).foldl (fun y (e:En)=>Ma.mulN y e.x) y0) x.x] from HP.out.trans ⟨_,rfl⟩);have HS2:=ι (show (S1++[((1:Int),((a:Nat):Int),((x.at_:Nat):Int))]).length=S.length+(i+1) by rw [List.length_append,HS.out]; rfl);have HE2:=ι (show 0<i+1→T1.length+1=(T1++[Ma.mulN ((l.take i).foldl (fun y (e:En)=>Ma.mulN y e.x) y0) x.x]).length from fun _=>by rw [List.length_append]; rfl);have MK2:=ι hmk;have TM2:=ι (show TbM B F9 tb mb N _ _ (T1++[Ma.mulN ((l.take i).foldl (fun y (e:En)=>Ma.mulN y e.x) y0) x.x]).length es es es sv9 lv by rw [List.length_append]; exact hT9);have K2:=ι (K.out.trans hg9);have C2:=ι (C.out.kg hg9.kg);have RD2:=ι (RD.out.gw hg9);clear hz hmk hal hT9 hg9 HA HP HS HE MK TM K C RD CX HNX;go_upto_region 5 with (fail);refine Rg.wl ?_;refine Rg.lr 19 (exec_bin (R:=.int .i64 (((i+1):Nat):Int)) .add _ _ _ rfl rfl rfl (b_add _ (by omega) (by omega))) ?_;go_frame
   refine Rg.lm 11 (.int .i64 (((i+1):Nat):Int)) ?_;go_frame;go_wp2
   go_roundw
   case rel=>exact ⟨i+1,_,_,_,_,_,rfl,by go_num,HIL.out,HA2,HP2,HS2,HE2,MK2,TM2,K2,C2,RD2⟩
   case measure=>simp [intOf]; have:=HIL.out; omega

theorem fcMul_f {F:Nat→Prop} {n:Nat} {v1 v2:Value} {a b:List Nat} {w:World} (h1:FP F w v1 a) (h2:FP F w v2 b) (ga:Cm.Gd n a) (gb:Cm.Gd n b) (hn:1≤n) (hn2:n≤64) :
  Calls Tryz.prog 44 #[v1,v2] w fun e w'=>∃ v,e=.returned v∧FP (Fup F w w') w' v (Ma.mulN a b)∧Below w.heap.size w w':=by
 have e1:=ga.2;have e2:=gb.2;refine (fcMul_any v1 v2 a b w h1.np h2.np (fun x hx=>by have:=ga.1.1 x hx; omega) (by omega) (by omega) (by omega)).mono ?_;rintro e w' ⟨v,rfl,hv,hb⟩;exact ⟨v,rfl,FP.new hv,hb⟩
theorem fcInv_f {F:Nat→Prop} {n:Nat} {v1:Value} {a:List Nat} {w:World} (h1:FP F w v1 a) (ga:Cm.Gd n a) (hn:1≤n) (hn2:n≤64) :
  Calls Tryz.prog 45 #[v1] w fun e w'=>∃ v,e=.returned v∧FP (Fup F w w') w' v (Ma.invN a)∧Below w.heap.size w w':=by
 have e1:=ga.2;refine (fcInv_any v1 a w h1.np ga.1 (by omega) (by omega)).mono ?_;rintro e w' ⟨v,rfl,hv,hb⟩;exact ⟨v,rfl,FP.new hv,hb⟩
structure SfM (B:Nat) (F:Nat→Prop) (tb mb N:Nat) (W:World) (S:List Stp) (nx:Nat) (es:List En) (sv lv:Value) (w0:World) (F0:Nat→Prop) (ab:Nat) (x0 y0:Int) (uv:Value) (U:List En):Prop where
 tm:TbM B F tb mb N W S nx es es es sv lv
 kg:KG F0 w0 F W
 nF:∀ k,F k→F0 k∨w0.heap.size≤k
 bl:Below w0.heap.size w0 W
 row:W.ownsRow w0.heap.size 110 1 uv U.length (U.map enP)
 offr:∀ k,uv.ownBlock=some k→¬ F k∧k≠ab
 pw:Pw W ab x0 y0
 offa:¬ F ab∧w0.heap.size≤ab
 mlt:∀ k,tbS tb mb es sv lv k→k<w0.heap.size
theorem SfM.gw {B:Nat} {F:Nat→Prop} {tb mb N:Nat} {W:World} {S:List Stp} {nx:Nat} {es:List En} {sv lv:Value} {w0:World} {F0:Nat→Prop} {ab:Nat} {x0 y0:Int} {uv:Value} {U:List En} (h:SfM B F tb mb N W S nx es sv lv w0 F0 ab x0 y0 uv U) (M:Nat→Prop):Gw F0 M w0 F M W :=
 ⟨h.kg,Rg.Kp.of_below h.bl,h.nF,fun _=>.inl⟩
theorem SfM.up {B:Nat} {F:Nat→Prop} {tb mb N:Nat} {W W':World} {S:List Stp} {nx:Nat} {es:List En} {sv lv:Value} {w0:World} {F0:Nat→Prop} {ab:Nat} {x0 y0:Int} {uv:Value} {U:List En} (h:SfM B F tb mb N W S nx es sv lv w0 F0 ab x0 y0 uv U) (hb:Below W.heap.size W W'):SfM B (Fup F W W') tb mb N W' S nx es sv lv w0 F0 ab x0 y0 uv U:=by
 refine ⟨h.tm.up hb,h.kg.up hb,fun k hk=>?_,h.bl.trans (hb.mono h.bl.size),Rg.row_below h.row hb,fun k e=>⟨fun hk=>?_,(h.offr k e).2⟩,h.pw.below hb,⟨fun hk=>?_,h.offa.2⟩,h.mlt⟩
 ·rcases hk with hk | hk
  ·exact h.nF k hk
  ·exact .inr (Nat.le_trans h.bl.size hk.1)
 ·rcases hk with hk | hk
  ·exact (h.offr k e).1 hk
  ·have:=(World.ownsRow.lt h.row k e).2; omega
 ·rcases hk with hk | hk
  ·exact h.offa.1 hk
  ·have:=h.pw.c0.lt; omega
theorem SfM.push {B:Nat} {F:Nat→Prop} {tb mb N:Nat} {W:World} {S:List Stp} {nx:Nat} {es:List En} {sv lv:Value} {w0:World} {F0:Nat→Prop} {ab:Nat} {x0 y0:Int} {uv:Value} {U:List En} (h:SfM B F tb mb N W S nx es sv lv w0 F0 ab x0 y0 uv U) (e:En) (hn:U.length<1000000) (ty:TypeId) :
  ∃ a c X,(Builtin.append_ #[102,102] ty #[uv,.slice (some ⟨W.heap.size,0,none⟩) 1 1]).run Tryz.prog (W.alloc (.cells #[enP e] 110))=.ok (.slice a (U.length+1) c) X ∧
   SfM B F tb mb N X S nx es sv lv w0 F0 ab x0 y0 (.slice a (U.length+1) c) (U++[e])∧KF F W X∧Rg.Kp (fun k=>uv.ownBlock=some k) W X:=by
 have hb:Below W.heap.size W (W.alloc (.cells #[enP e] 110)):=(Below.refl _ _).alloc (Nat.le_refl _) _
 have e2:(W.alloc (.cells #[enP e] 110)).heap.size=W.heap.size+1:=by simp
 obtain ⟨v',X,r1,r2,q3,q4,a,c,rfl⟩:=app_run (P:=Tryz.prog) slEnts ty (Rg.row_below h.row hb) (Nat.le_trans h.bl.size hb.size) W.heap.size 1 (u:=enP e) (by rw [Rg.cellNew]; rfl) rfl hn;have r3:Rg.Kp (fun k=>uv.ownBlock=some k) W X:=Rg.Kp.trans (M:=fun k=>uv.ownBlock=some k) ((Rg.Kp.of_below hb).weak fun _=>False.elim) (Rg.Kp.of_grown q3 fun _ e=>e) (fun _ _ e=>e);have hF:∀ k,F k→¬ uv.ownBlock=some k:=fun k hf e=>(h.offr k e).1 hf;have hkf:KF F W X:=r3.weak fun k e hf=>hF k hf e;refine ⟨a,c,X,r1,⟨h.tm.kp r3 (fun k e hm=>?_) hF,h.kg.kf' hkf,h.nF,Rg.Kp.below h.bl r3 (fun k e=>(World.ownsRow.lt h.row k e).1),by rw [List.length_append,List.map_append]; exact r2,fun k e=>?_,h.pw.kp r3 (fun e=>(h.offr ab e).2 rfl),h.offa,h.mlt⟩,hkf,r3⟩
 ·have:=h.mlt k hm
  have:=(World.ownsRow.lt h.row k e).1;omega
 ·rcases q4 with q4 | q4
  ·exact h.offr k (by rw [← q4]; exact e)
  ·rw [q4] at e
   injection e with e
   refine ⟨fun hf=>?_,fun e3=>?_⟩
   ·have:=h.tm.Flt k hf; omega
   ·have:=h.pw.c0.lt; omega
theorem SfM.set {B:Nat} {F:Nat→Prop} {tb mb N:Nat} {W:World} {S:List Stp} {nx:Nat} {es:List En} {sv lv:Value} {w0:World} {F0:Nat→Prop} {ab:Nat} {x0 y0:Int} {uv:Value} {U:List En} (h:SfM B F tb mb N W S nx es sv lv w0 F0 ab x0 y0 uv U) (u v:Int) :
  SfM B F tb mb N ((W.setCell ⟨ab,0,none⟩ (.int .i64 u)).setCell ⟨ab,1,none⟩ (.int .i64 v)) S nx es sv lv w0 F0 ab u v uv U∧KF F W ((W.setCell ⟨ab,0,none⟩ (.int .i64 u)).setCell ⟨ab,1,none⟩ (.int .i64 v)):=by
 have hk:Rg.Kp (fun k=>k=ab) W ((W.setCell ⟨ab,0,none⟩ (.int .i64 u)).setCell ⟨ab,1,none⟩ (.int .i64 v)):=Rg.Kp.trans (M:=fun k=>k=ab) (Rg.Kp.of_setCell rfl) (Rg.Kp.of_setCell (M:=fun k=>k=ab) rfl) (fun _ _ e=>e);have hF:∀ k,F k→¬ k=ab:=fun k hf e=>h.offa.1 (e▸hf);have hkf:=hk.weak (M':=fun k=>¬ F k) fun k e hf=>hF k hf e;refine ⟨⟨h.tm.kp hk (fun k e hm=>?_) hF,h.kg.kf' hkf,h.nF,Rg.Kp.below h.bl hk (fun k e=>e▸h.offa.2),rowKp h.row hk (fun k e e2=>(h.offr k e2).2 e),h.offr,h.pw.set u v,h.offa,h.mlt⟩,hkf⟩;have:=h.mlt k hm;have:=h.offa.2;omega
def SiP (B:Nat) (F:Nat→Prop) (tb mb N:Nat) (S:List Stp) (nx:Nat) (es:List En) (sv lv:Value) (U:List En) (A:Nat × List Nat) (w:World) (ed:Ending) (w':World):Prop :=
 ∃ (F':Nat→Prop) (uv rv:Value) (x y:Int),ed=.returned (.tuple #[uv,rv,.agg #[.int .i64 x,.int .i64 y],.bool (decide (A.1<N))])∧(A.1<N→x=((A.1:Nat):Int)∧y=((Cm.ap A.2 A.1:Nat):Int)) ∧
  TbM B F' tb mb N w' S nx es es es sv lv∧(∀ M,Gw F M w F' M w')∧Below w.heap.size w w'∧w'.ownsRow w.heap.size 110 1 uv U.length (U.map enP)∧(∀ k,uv.ownBlock=some k→¬ F' k)∧FP F' w' rv A.2
theorem SiP.intro {B:Nat} {F0 F:Nat→Prop} {tb mb N:Nat} {w W:World} {S:List Stp} {nx:Nat} {es:List En} {sv lv:Value} {ab:Nat} {x0 y0:Int} {uv rv:Value} {U:List En} {A:Nat × List Nat} (h:SfM B F tb mb N W S nx es sv lv w F0 ab x0 y0 uv U) (b:Bool) (hb:decide (A.1<N)=b) (hx:A.1<N→x0=((A.1:Nat):Int)∧y0=((Cm.ap A.2 A.1:Nat):Int)) (hr:FP F W rv A.2) :
  SiP B F0 tb mb N S nx es sv lv U A w (.returned (.tuple #[uv,rv,.agg #[.int .i64 x0,.int .i64 y0],.bool b])) W :=
 ⟨F,uv,rv,x0,y0,by rw [hb],hx,h.tm,h.gw,h.bl,h.row,fun k e=>(h.offr k e).1,hr⟩
theorem sift_t {B:Nat} {F0:Nat→Prop} {tb mb N:Nat} {w:World} {gs:List (List Nat)} {S:List Stp} {T:List (List Nat)} {nx:Nat} {es:List En} {sv lv:Value} (hp:Tb N gs S T es) (h:TbM B F0 tb mb N w S nx es es es sv lv) (hn1:1≤N) (hn2:N≤64) {xv:Value} {x:List Nat} (hx:FP F0 w xv x) (gx:Cm.Gd N x) :
  Calls Tryz.prog 65 #[.pointer (some ⟨tb,0,none⟩),xv] w (SiP B F0 tb mb N S nx es sv lv (usE es N N x) (Cm.sfP N (Cm.idT N (trE es)) N x) w):=by
 obtain ⟨xb0,xo0,xc0,rfl⟩:=hx.shape' gx hn1;have HR:=ι hp.ok.rp;have HG:=ι (fun e he=>(hp.en e he).gd);obtain ⟨A,hA⟩:∃ A,Hid (A=Cm.sfP N (Cm.idT N (trE es)) N x):=⟨_,ι rfl⟩;obtain ⟨UU,hUU⟩:∃ U,Hid (U=usE es N N x):=⟨_,ι rfl⟩;rw [← hA.out,← hUU.out];have HS0:=ι (show Cm.sfP N (Cm.idT N (trE es)) (N - 0) x=A from hA.out.symm);have HU0:=ι (show []++usE es N (N - 0) x=UU from hUU.out.symm);have GX:=ι gx;have hba:Below w.heap.size w (w.alloc (.cells #[.int .i64 0,.int .i64 0] 106)):=(Below.refl _ _).alloc (Nat.le_refl _) _;have hpw:=Pw.new w;have hMl:=h.Mlt;have hFl:=h.Flt
 have SM:=ι (show SfM B F0 tb mb N (w.alloc (.cells #[.int .i64 0,.int .i64 0] 106)) S nx es sv lv w F0 w.heap.size 0 0 (.slice none 0 0) [] from
  ⟨h.below hba,(KG.refl hFl).kf' (KF.of_below hba),fun _=>.inl,hba,World.ownsRow_nil _ _ _ _,fun k e=>(by cases e),hpw,⟨fun e=>Nat.lt_irrefl _ (hFl _ e),Nat.le_refl _⟩,hMl⟩)
 have X:=ι (FP.kf hx (KF.of_below hba));obtain ⟨ab,hab⟩:∃ b,b=w.heap.size:=⟨_,rfl⟩;clear hba hpw hMl hFl hp h hx gx
 go_enter Tryz.func65,Tryz.ntmps65
 go_upto_region 0 with (fail);refine Rg.wl ?_;refine Rg.la 4 (.slice none 0 0) ?_;go_frame;refine Rg.la 5 (.slice none 0 0) ?_;go_frame;refine Rg.lr 6 (exec_allocP2 rfl) ?_;go_frame;refine Rg.la 7 (.bool false) ?_;go_frame;generalize hw0:w.alloc (.cells #[.int .i64 0,.int .i64 0] 106)=w0 at *;clear hw0;rw [← hab] at SM ⊢;go_upto_region 1 with (fail);refine Rg.wl ?_;refine Rg.la 8 (.int .i64 ((0:Nat):Int)) ?_;go_frame;go_wp2
 go_loopw [1,4,8] (fun yv uv iv wr=>∃ (i:Nat) (y:List Nat) (F1:Nat→Prop) (U:List En),i≤N∧iv=.int .i64 ((i:Nat):Int)∧Hid (FP F1 wr yv y)∧Hid (SfM B F1 tb mb N wr S nx es sv lv w F0 ab 0 0 uv U)∧Hid (Cm.Gd N y)∧Hid (Cm.sfP N (Cm.idT N (trE es)) (N - i) y=A)∧Hid (U++usE es N (N - i) y=UU)∧Hid (U.length≤i)) (fun _ _ iv _=>N - (intOf iv).toNat)
 case atStart=>exact ⟨0,x,F0,[],Nat.zero_le _,rfl,X,SM,GX,HS0,HU0,ι (Nat.le_refl 0)⟩
 case round =>
  clear X SM GX HS0 HU0;obtain ⟨i,y,F,U,hi,rfl,X,SM,GY,HS,HU,HUL⟩:=hrel;obtain ⟨ua,uc,hsh⟩:=Rg.row_shape SM.out.row;subst hsh;obtain ⟨xb,xo,xc,hsh⟩:=X.out.shape' GY.out hn1;subst hsh
  by_cases hin:i<N
  case neg =>
   obtain rfl:i=N:=by omega
   have HE:=ι (show A=(i,y) by rw [← HS.out,Nat.sub_self]; rfl);have HUE:=ι (show U=UU by have:=HU.out; rw [Nat.sub_self] at this; simpa [usE] using this);go_upto_region 2 with (fail);refine Rg.wl ?_;refine Rg.lm 10 (.int .i64 ((i:Nat):Int)) ?_;go_frame;refine Rg.lm 11 (.pointer (some ⟨tb,0,none⟩)) ?_;go_frame;refine Rg.lr 12 (exec_nil _ rfl rfl) ?_;go_frame;refine Rg.lr 13 (exec_field _ rfl rfl (tblF1 _ _)) ?_;go_frame;refine Rg.lr 14 (Rg.exec_load (v:=.int .i64 ((i:Nat):Int)) _ _ rfl ⟨tb,2,none⟩ rfl (run_loadInt SM.out.tm.h2.c)) ?_;go_frame;refine Rg.lr 15 (exec_bin (R:=.bool false) .lss _ _ _ rfl rfl rfl (b_lss _ Rg.dF)) ?_;go_frame;go_upto_region 9 with (fail);have hV0:Below wr.heap.size wr wr.drew:=(Below.refl _ _).drew;replace X:=ι (X.out.up hV0);replace SM:=ι (SM.out.up hV0);generalize Fup F wr wr.drew=F1 at *;clear hV0;refine Rg.Any.begin (S:=Rg.Both 5 (fun W:World=>W.cell? ⟨ab,0,none⟩=some (.int .i64 0)∧W.cell? ⟨ab,1,none⟩=some (.int .i64 0)) (fun _=>True)) mix ?_
   generalize wr.drew=w11 at *;have hS:∀ (l:Array Bool) W,(fun W:World=>W.cell? ⟨ab,0,none⟩=some (.int .i64 0)∧W.cell? ⟨ab,1,none⟩=some (.int .i64 0)) W→Rg.Both 5 (fun W:World=>W.cell? ⟨ab,0,none⟩=some (.int .i64 0)∧W.cell? ⟨ab,1,none⟩=some (.int .i64 0)) (fun _=>True) l W:=fun l W h=>⟨.inr h,trivial⟩;have hS2:∀ (l:Array Bool) W,l.getD 5 false=true→Rg.Both 5 (fun W:World=>W.cell? ⟨ab,0,none⟩=some (.int .i64 0)∧W.cell? ⟨ab,1,none⟩=some (.int .i64 0)) (fun _=>True) l W:=fun l W h=>⟨.inl h,trivial⟩;have hI:(fun W:World=>W.cell? ⟨ab,0,none⟩=some (.int .i64 0)∧W.cell? ⟨ab,1,none⟩=some (.int .i64 0)) w11:=⟨SM.out.pw.c0.c,SM.out.pw.c1.c⟩;refine Rg.tm 0 5 (.slice ua U.length uc) 55 (hS _ _ hI) ?_;go_frame;refine Rg.tm 1 5 (.slice (some ⟨xb,xo,none⟩) i xc) 56 (hS _ _ hI) ?_;go_frame;refine Rg.Any.takeT (i:=2) (t:=5) (v:=(.agg #[.int .i64 0,.int .i64 0])) (some 57) rfl rfl (by kernel_rfl) (by kernel_rfl) (by kernel_rfl) (fun _ _ _ h=>h) rfl (by kernel_rfl) rfl (Rg.yields_cell _ _ rfl rfl ⟨ab,0,none⟩ rfl (fun W hW=>run_loadP2 hW.1 hW.2)) (hS _ _ hI) ?_;go_frame
   refine Rg.tg 3 5 (.slice ua U.length uc) 4 rfl rfl (.inl ⟨rfl,fun w _=>Rg.exec_assign (v:=.slice ua U.length uc) _ rfl rfl⟩) (hS _ _ hI) ?_;go_frame;refine Rg.tg 4 5 (.slice (some ⟨xb,xo,none⟩) i xc) 5 rfl rfl (.inl ⟨rfl,fun w _=>Rg.exec_assign (v:=.slice (some ⟨xb,xo,none⟩) i xc) _ rfl rfl⟩) (hS _ _ hI) ?_;go_frame;obtain ⟨hS9,hkf9⟩:=SM.out.set 0 0;have hX9:=FP.kf X.out hkf9;refine Rg.Any.one (i:=5) (by kernel_rfl) (Rg.Any.runSkip none rfl rfl rfl (Rg.exec_store _ _ _ rfl _ rfl _ rfl (SM.out.pw.run 0 0)) (hS2 _ _ rfl) ?_);go_frame;refine Rg.tg 6 5 (.bool false) 7 rfl rfl (.inl ⟨rfl,fun w _=>Rg.exec_assign (v:=.bool false) _ rfl rfl⟩) (hS2 _ _ rfl) ?_;go_frame;refine Rg.Any.done (by kernel_rfl) ?_ _;clear hS2;clear hS hI;generalize (w11.setCell ⟨ab,0,none⟩ (.int .i64 0)).setCell ⟨ab,1,none⟩ (.int .i64 0)=w9 at *;have HPW:=ι hS9.pw
   have HFI:=ι (show SiP B F0 tb mb i S nx es sv lv UU A w (.returned (.tuple #[.slice ua U.length uc,.slice (some ⟨xb,xo,none⟩) i xc,.agg #[.int .i64 0,.int .i64 0],.bool false])) w9 from by
    rw [← HUE.out]
    exact SiP.intro hS9 false (by rw [HE.out]; simp) (fun h=>by rw [HE.out] at h; exact absurd h (Nat.lt_irrefl _)) (by rw [HE.out]; exact hX9))
   clear hS9 hX9 hkf9;go_wp2;exact bodyPost_ret (results_sift (t:=4) (u:=5) (p:=6) (v:=7) rfl _ rfl rfl rfl rfl HPW.out) rfl HFI.out
  case pos =>
   have HIN:=ι hin;have hqn:=Cm.ap_lt GY.out hin;obtain ⟨q,hq⟩:∃ q:Nat,Hid (q=Cm.ap y i):=⟨_,ι rfl⟩;rw [← hq.out] at hqn;have CX:=ι (show CF F wr xb (xo+i) (.int .i64 ((q:Nat):Int)) by rw [hq.out]; exact X.out.ap GY.out hin);go_upto_region 2 with (fail);refine Rg.wl ?_;refine Rg.lm 10 (.int .i64 ((i:Nat):Int)) ?_;go_frame;refine Rg.lm 11 (.pointer (some ⟨tb,0,none⟩)) ?_;go_frame;refine Rg.lr 12 (exec_nil _ rfl rfl) ?_;go_frame;refine Rg.lr 13 (exec_field _ rfl rfl (tblF1 _ _)) ?_;go_frame;refine Rg.lr 14 (Rg.exec_load (v:=.int .i64 ((N:Nat):Int)) _ _ rfl ⟨tb,2,none⟩ rfl (run_loadInt SM.out.tm.h2.c)) ?_;go_frame;refine Rg.lr 15 (exec_bin (R:=.bool true) .lss _ _ _ rfl rfl rfl (b_lss _ Rg.dT)) ?_;go_frame
   by_cases hqi:q=i
   case pos =>
    have hqN:(q:Int)=(i:Int):=by omega
    have HY:=ι (show Cm.sfP N (Cm.idT N (trE es)) (N - (i+1)) y=A by rw [← HS.out]; exact (sfP_eq hin GY.out (by rw [← hq.out]; exact hqi)).symm);have HU2:=ι (show U++usE es N (N - (i+1)) y=UU by rw [← HU.out,usE_eq hin (by rw [← hq.out]; exact hqi)]);have HUL2:=ι (show U.length≤i+1 from Nat.le_succ_of_le HUL.out);clear hqi;go_upto_region 4 with (fail);refine Rg.wl ?_;refine Rg.lm 18 (.slice (some ⟨xb,xo,none⟩) N xc) ?_;go_frame;refine Rg.lm 19 (.int .i64 ((i:Nat):Int)) ?_;go_frame;refine Rg.lr 20 (exec_indexS slPerm _ _ rfl xb (xo) (N) xc (i) rfl rfl HIN.out) ?_;go_frame;refine Rg.lr 21 (Rg.exec_load (v:=.int .i64 ((q:Nat):Int)) _ _ rfl ⟨xb,xo+i,none⟩ rfl (run_loadInt CX.out.cell)) ?_;go_frame;refine Rg.lm 22 (.int .i64 ((i:Nat):Int)) ?_;go_frame;refine Rg.lr 23 (exec_bin (R:=.bool true) .eql _ _ _ rfl rfl rfl (b_eql _ Rg.dT)) ?_;go_frame;go_upto_region 3 with (fail)
    refine Rg.wl ?_;refine Rg.lm 16 (.int .i64 ((i:Nat):Int)) ?_;go_frame;refine Rg.lr 17 (exec_bin (R:=.int .i64 (((i+1):Nat):Int)) .add _ _ _ rfl rfl rfl (b_add _ (by omega) (by omega))) ?_;go_frame;refine Rg.la 8 (.int .i64 (((i+1):Nat):Int)) ?_;go_frame;go_wp2
    go_roundw
    case rel=>exact ⟨i+1,y,_,U,HIN.out,by go_num,X,SM,GY,HY,HU2,HUL2⟩
    case measure=>simp [intOf]; have:=HIN.out; omega
   case neg =>
    have hqN:¬ (q:Int)=(i:Int):=by omega
    have HQI:=ι (show Cm.ap y i≠i by rw [← hq.out]; exact hqi);clear hqi;go_upto_region 4 with (fail);refine Rg.wl ?_;refine Rg.lm 18 (.slice (some ⟨xb,xo,none⟩) N xc) ?_;go_frame;refine Rg.lm 19 (.int .i64 ((i:Nat):Int)) ?_;go_frame;refine Rg.lr 20 (exec_indexS slPerm _ _ rfl xb (xo) (N) xc (i) rfl rfl HIN.out) ?_;go_frame;refine Rg.lr 21 (Rg.exec_load (v:=.int .i64 ((q:Nat):Int)) _ _ rfl ⟨xb,xo+i,none⟩ rfl (run_loadInt CX.out.cell)) ?_;go_frame;refine Rg.lm 22 (.int .i64 ((i:Nat):Int)) ?_;go_frame;refine Rg.lr 23 (exec_bin (R:=.bool false) .eql _ _ _ rfl rfl rfl (b_eql _ Rg.dF)) ?_;go_frame
    cases hfe:fnd es i q with
    | none =>
     have HFE:=ι hfe;have HE:=ι (show A=(i,y) by rw [← HS.out]; exact sfP_no hin HQI.out (by rw [← hq.out]; exact hfe));have HUE:=ι (show U=UU by rw [← HU.out,usE_none hin HQI.out (by rw [← hq.out]; exact hfe),List.append_nil]);clear hfe;go_upto_region 5 with (fail);have hV0:Below wr.heap.size wr wr.drew:=(Below.refl _ _).drew;replace X:=ι (X.out.up hV0);replace SM:=ι (SM.out.up hV0);replace CX:=ι (CX.out.up hV0);generalize Fup F wr wr.drew=F1 at *;clear hV0;refine Rg.Any.begin (S:=Rg.Both 11 (fun W:World=>W.cell? ⟨tb,3,none⟩=some (.map (some mb))∧W.cell? ⟨xb,xo+i,none⟩=some (.int .i64 ((q:Nat):Int))) (fun _=>True)) mix ?_;generalize wr.drew=w21 at *;have hS:∀ (l:Array Bool) W,(fun W:World=>W.cell? ⟨tb,3,none⟩=some (.map (some mb))∧W.cell? ⟨xb,xo+i,none⟩=some (.int .i64 ((q:Nat):Int))) W→Rg.Both 11 (fun W:World=>W.cell? ⟨tb,3,none⟩=some (.map (some mb))∧W.cell? ⟨xb,xo+i,none⟩=some (.int .i64 ((q:Nat):Int))) (fun _=>True) l W:=fun l W h=>⟨.inr h,trivial⟩
     have hS2:∀ (l:Array Bool) W,l.getD 11 false=true→Rg.Both 11 (fun W:World=>W.cell? ⟨tb,3,none⟩=some (.map (some mb))∧W.cell? ⟨xb,xo+i,none⟩=some (.int .i64 ((q:Nat):Int))) (fun _=>True) l W:=fun l W h=>⟨.inl h,trivial⟩;have hI:(fun W:World=>W.cell? ⟨tb,3,none⟩=some (.map (some mb))∧W.cell? ⟨xb,xo+i,none⟩=some (.int .i64 ((q:Nat):Int))) w21:=⟨SM.out.tm.h3.c,CX.out.cell⟩;refine Rg.tm 0 11 (.pointer (some ⟨tb,0,none⟩)) 24 (hS _ _ hI) ?_;go_frame;refine Rg.tg 1 11 (.pointer (some ⟨tb,0,none⟩)) 25 rfl rfl (.inl ⟨rfl,fun w _=>exec_nil _ rfl rfl⟩) (hS _ _ hI) ?_;go_frame;refine Rg.tg 2 11 (.pointer (some ⟨tb,3,none⟩)) 26 rfl rfl (.inl ⟨rfl,fun w _=>exec_field _ rfl rfl (tblF2 _ _)⟩) (hS _ _ hI) ?_;go_frame;refine Rg.Any.takeT (i:=3) (t:=11) (v:=(.map (some mb))) (some 27) rfl rfl (by kernel_rfl) (by kernel_rfl) (by kernel_rfl) (fun _ _ _ h=>h) rfl (by kernel_rfl) rfl (Rg.yields_cell _ _ rfl rfl ⟨tb,3,none⟩ rfl (fun W hW=>run_loadME hW.1)) (hS _ _ hI) ?_;go_frame
     refine Rg.tm 4 11 (.int .i64 ((i:Nat):Int)) 28 (hS _ _ hI) ?_;go_frame;refine Rg.tm 5 11 (.slice (some ⟨xb,xo,none⟩) N xc) 29 (hS _ _ hI) ?_;go_frame;refine Rg.tm 6 11 (.int .i64 ((i:Nat):Int)) 30 (hS _ _ hI) ?_;go_frame;refine Rg.tg 7 11 (.pointer (some ⟨xb,xo+i,none⟩)) 31 rfl rfl (Rg.yields_index slPerm _ _ rfl rfl xb (xo) (N) xc (i) rfl rfl HIN.out) (hS _ _ hI) ?_;go_frame;refine Rg.Any.takeT (i:=8) (t:=11) (v:=.int .i64 ((q:Nat):Int)) (some 32) rfl rfl (by kernel_rfl) (by kernel_rfl) (by kernel_rfl) (fun _ _ _ h=>h) rfl (by kernel_rfl) rfl (Rg.yields_cell _ _ rfl rfl ⟨xb,xo+i,none⟩ rfl (fun W hW=>run_loadInt hW.2)) (hS _ _ hI) ?_;go_frame;refine Rg.tg 9 11 ((.agg #[.int .i64 ((i:Nat):Int),.int .i64 ((q:Nat):Int)])) 33 rfl rfl (.inl ⟨rfl,fun w _=>exec_buildKy _ _ rfl rfl rfl⟩) (hS _ _ hI) ?_;go_frame;have hlk:=Jm.lookup_no ktT SM.out.tm.mp (i,q)
     rw [look_fnd,HFE.out] at hlk;refine Rg.Any.one (i:=10) (by kernel_rfl) (Rg.Any.run (some 34) rfl rfl rfl (Rg.exec_lookup _ _ _ _ rfl _ _ rfl rfl hlk) (hS _ _ hI) ?_);go_frame;refine Rg.Any.one (i:=11) (by kernel_rfl) (Rg.Any.run (some 9) rfl rfl rfl (Rg.xa ((.pointer none)) _ rfl rfl) (hS2 _ _ rfl) ?_);go_frame;refine Rg.Any.done (by kernel_rfl) ?_ _;clear hS2;clear hS hI;go_upto_region 6 with (fail);refine Rg.wl ?_;refine Rg.lm 35 ((.pointer none)) ?_;go_frame;refine Rg.lr 36 (exec_pnilT _ _ rfl rfl rfl) ?_;go_frame;go_upto_region 7 with (fail);have hV0:Below w21.heap.size w21 w21.drew:=(Below.refl _ _).drew;replace X:=ι (X.out.up hV0);replace SM:=ι (SM.out.up hV0);replace CX:=ι (CX.out.up hV0);generalize Fup F1 w21 w21.drew=F2 at *;clear hV0;refine Rg.Any.begin (S:=Rg.Both 10 (fun W:World=>W.cell? ⟨xb,xo+i,none⟩=some (.int .i64 ((q:Nat):Int))) (fun _=>True)) mix ?_
     generalize w21.drew=w22 at *;have hS:∀ (l:Array Bool) W,(fun W:World=>W.cell? ⟨xb,xo+i,none⟩=some (.int .i64 ((q:Nat):Int))) W→Rg.Both 10 (fun W:World=>W.cell? ⟨xb,xo+i,none⟩=some (.int .i64 ((q:Nat):Int))) (fun _=>True) l W:=fun l W h=>⟨.inr h,trivial⟩;have hS2:∀ (l:Array Bool) W,l.getD 10 false=true→Rg.Both 10 (fun W:World=>W.cell? ⟨xb,xo+i,none⟩=some (.int .i64 ((q:Nat):Int))) (fun _=>True) l W:=fun l W h=>⟨.inl h,trivial⟩;have hI:(fun W:World=>W.cell? ⟨xb,xo+i,none⟩=some (.int .i64 ((q:Nat):Int))) w22:=CX.out.cell;refine Rg.tm 0 10 (.slice ua U.length uc) 37 (hS _ _ hI) ?_;go_frame;refine Rg.tm 1 10 (.slice (some ⟨xb,xo,none⟩) N xc) 38 (hS _ _ hI) ?_;go_frame;refine Rg.tm 2 10 (.int .i64 ((i:Nat):Int)) 39 (hS _ _ hI) ?_;go_frame;refine Rg.tm 3 10 (.slice (some ⟨xb,xo,none⟩) N xc) 40 (hS _ _ hI) ?_;go_frame
     refine Rg.tm 4 10 (.int .i64 ((i:Nat):Int)) 41 (hS _ _ hI) ?_;go_frame;refine Rg.tg 5 10 (.pointer (some ⟨xb,xo+i,none⟩)) 42 rfl rfl (Rg.yields_index slPerm _ _ rfl rfl xb (xo) (N) xc (i) rfl rfl HIN.out) (hS _ _ hI) ?_;go_frame;refine Rg.Any.takeT (i:=6) (t:=10) (v:=.int .i64 ((q:Nat):Int)) (some 43) rfl rfl (by kernel_rfl) (by kernel_rfl) (by kernel_rfl) (fun _ _ _ h=>h) rfl (by kernel_rfl) rfl (Rg.yields_cell _ _ rfl rfl ⟨xb,xo+i,none⟩ rfl (fun W hW=>run_loadInt hW)) (hS _ _ hI) ?_;go_frame;refine Rg.tg 7 10 ((.agg #[.int .i64 ((i:Nat):Int),.int .i64 ((q:Nat):Int)])) 44 rfl rfl (.inl ⟨rfl,fun w _=>exec_buildKy _ _ rfl rfl rfl⟩) (hS _ _ hI) ?_;go_frame;refine Rg.tg 8 10 (.slice ua U.length uc) 4 rfl rfl (.inl ⟨rfl,fun w _=>Rg.exec_assign (v:=.slice ua U.length uc) _ rfl rfl⟩) (hS _ _ hI) ?_;go_frame;refine Rg.tg 9 10 (.slice (some ⟨xb,xo,none⟩) N xc) 5 rfl rfl (.inl ⟨rfl,fun w _=>Rg.exec_assign (v:=.slice (some ⟨xb,xo,none⟩) N xc) _ rfl rfl⟩) (hS _ _ hI) ?_;go_frame
     obtain ⟨hS9,hkf9⟩:=SM.out.set ((i:Nat):Int) ((q:Nat):Int);have hX9:=FP.kf X.out hkf9;refine Rg.Any.one (i:=10) (by kernel_rfl) (Rg.Any.runSkip none rfl rfl rfl (Rg.exec_store _ _ _ rfl _ rfl _ rfl (SM.out.pw.run ((i:Nat):Int) ((q:Nat):Int))) (hS2 _ _ rfl) ?_);go_frame;refine Rg.tg 11 10 (.bool true) 7 rfl rfl (.inl ⟨rfl,fun w _=>Rg.exec_assign (v:=.bool true) _ rfl rfl⟩) (hS2 _ _ rfl) ?_;go_frame;refine Rg.Any.done (by kernel_rfl) ?_ _;clear hS2;clear hS hI;generalize (w22.setCell ⟨ab,0,none⟩ (.int .i64 ((i:Nat):Int))).setCell ⟨ab,1,none⟩ (.int .i64 ((q:Nat):Int))=w9 at *;have HPW:=ι hS9.pw
     have HFI:=ι (show SiP B F0 tb mb N S nx es sv lv UU A w (.returned (.tuple #[.slice ua U.length uc,.slice (some ⟨xb,xo,none⟩) N xc,.agg #[.int .i64 ((i:Nat):Int),.int .i64 ((q:Nat):Int)],.bool true])) w9 from by
      rw [← HUE.out]
      exact SiP.intro hS9 true (by rw [HE.out]; simpa using HIN.out) (fun _=>by rw [HE.out]; exact ⟨rfl,by rw [hq.out]⟩) (by rw [HE.out]; exact hX9))
     clear hS9 hX9 hkf9;go_wp2;exact bodyPost_ret (results_sift (t:=4) (u:=5) (p:=6) (v:=7) rfl _ rfl rfl rfl rfl HPW.out) rfl HFI.out
    | some e =>
     have HFE:=ι hfe;have hmem:=(fnd_mem hfe).1;have HEM:=ι hmem;have HY:=ι (show Cm.sfP N (Cm.idT N (trE es)) (N - (i+1)) (Ma.mulN y (Ma.invN e.x))=A by rw [← HS.out]; exact (sfP_yes hin HQI.out (by rw [← hq.out]; exact hfe)).symm);have HU2:=ι (show (U++[e])++usE es N (N - (i+1)) (Ma.mulN y (Ma.invN e.x))=UU by rw [← HU.out,usE_some hin HQI.out (by rw [← hq.out]; exact hfe),List.append_assoc]; rfl);have GI:=ι (Cm.gd_inv (HG.out e hmem));have GY2:=ι (Cm.gd_mul GY.out GI.out);have HUL2:=ι (show (U++[e]).length≤i+1 by rw [List.length_append]; exact Nat.succ_le_succ HUL.out)
     have hul:U.length<100:=by have:=HUL.out; omega
     clear hfe hmem;go_upto_region 5 with (fail);have hV0:Below wr.heap.size wr wr.drew:=(Below.refl _ _).drew;replace X:=ι (X.out.up hV0);replace SM:=ι (SM.out.up hV0);replace CX:=ι (CX.out.up hV0);generalize Fup F wr wr.drew=F1 at *;clear hV0;refine Rg.Any.begin (S:=Rg.Both 11 (fun W:World=>W.cell? ⟨tb,3,none⟩=some (.map (some mb))∧W.cell? ⟨xb,xo+i,none⟩=some (.int .i64 ((q:Nat):Int))) (fun _=>True)) mix ?_;generalize wr.drew=w33 at *;have hS:∀ (l:Array Bool) W,(fun W:World=>W.cell? ⟨tb,3,none⟩=some (.map (some mb))∧W.cell? ⟨xb,xo+i,none⟩=some (.int .i64 ((q:Nat):Int))) W→Rg.Both 11 (fun W:World=>W.cell? ⟨tb,3,none⟩=some (.map (some mb))∧W.cell? ⟨xb,xo+i,none⟩=some (.int .i64 ((q:Nat):Int))) (fun _=>True) l W:=fun l W h=>⟨.inr h,trivial⟩;have hS2:∀ (l:Array Bool) W,l.getD 11 false=true→Rg.Both 11 (fun W:World=>W.cell? ⟨tb,3,none⟩=some (.map (some mb))∧W.cell? ⟨xb,xo+i,none⟩=some (.int .i64 ((q:Nat):Int))) (fun _=>True) l W:=fun l W h=>⟨.inl h,trivial⟩
     have hI:(fun W:World=>W.cell? ⟨tb,3,none⟩=some (.map (some mb))∧W.cell? ⟨xb,xo+i,none⟩=some (.int .i64 ((q:Nat):Int))) w33:=⟨SM.out.tm.h3.c,CX.out.cell⟩;refine Rg.tm 0 11 (.pointer (some ⟨tb,0,none⟩)) 24 (hS _ _ hI) ?_;go_frame;refine Rg.tg 1 11 (.pointer (some ⟨tb,0,none⟩)) 25 rfl rfl (.inl ⟨rfl,fun w _=>exec_nil _ rfl rfl⟩) (hS _ _ hI) ?_;go_frame;refine Rg.tg 2 11 (.pointer (some ⟨tb,3,none⟩)) 26 rfl rfl (.inl ⟨rfl,fun w _=>exec_field _ rfl rfl (tblF2 _ _)⟩) (hS _ _ hI) ?_;go_frame;refine Rg.Any.takeT (i:=3) (t:=11) (v:=(.map (some mb))) (some 27) rfl rfl (by kernel_rfl) (by kernel_rfl) (by kernel_rfl) (fun _ _ _ h=>h) rfl (by kernel_rfl) rfl (Rg.yields_cell _ _ rfl rfl ⟨tb,3,none⟩ rfl (fun W hW=>run_loadME hW.1)) (hS _ _ hI) ?_;go_frame;refine Rg.tm 4 11 (.int .i64 ((i:Nat):Int)) 28 (hS _ _ hI) ?_;go_frame;refine Rg.tm 5 11 (.slice (some ⟨xb,xo,none⟩) N xc) 29 (hS _ _ hI) ?_;go_frame
     refine Rg.tm 6 11 (.int .i64 ((i:Nat):Int)) 30 (hS _ _ hI) ?_;go_frame;refine Rg.tg 7 11 (.pointer (some ⟨xb,xo+i,none⟩)) 31 rfl rfl (Rg.yields_index slPerm _ _ rfl rfl xb (xo) (N) xc (i) rfl rfl HIN.out) (hS _ _ hI) ?_;go_frame;refine Rg.Any.takeT (i:=8) (t:=11) (v:=.int .i64 ((q:Nat):Int)) (some 32) rfl rfl (by kernel_rfl) (by kernel_rfl) (by kernel_rfl) (fun _ _ _ h=>h) rfl (by kernel_rfl) rfl (Rg.yields_cell _ _ rfl rfl ⟨xb,xo+i,none⟩ rfl (fun W hW=>run_loadInt hW.2)) (hS _ _ hI) ?_;go_frame;refine Rg.tg 9 11 ((.agg #[.int .i64 ((i:Nat):Int),.int .i64 ((q:Nat):Int)])) 33 rfl rfl (.inl ⟨rfl,fun w _=>exec_buildKy _ _ rfl rfl rfl⟩) (hS _ _ hI) ?_;go_frame;have hlk:=Jm.lookup_no ktT SM.out.tm.mp (i,q);rw [look_fnd,HFE.out] at hlk;refine Rg.Any.one (i:=10) (by kernel_rfl) (Rg.Any.run (some 34) rfl rfl rfl (Rg.exec_lookup _ _ _ _ rfl _ _ rfl rfl hlk) (hS _ _ hI) ?_)
     go_frame;refine Rg.Any.one (i:=11) (by kernel_rfl) (Rg.Any.run (some 9) rfl rfl rfl (Rg.xa (.pointer (some ⟨e.b,0,none⟩)) _ rfl rfl) (hS2 _ _ rfl) ?_);go_frame;refine Rg.Any.done (by kernel_rfl) ?_ _;clear hS2;clear hS hI;go_upto_region 6 with (fail);refine Rg.wl ?_;refine Rg.lm 35 (.pointer (some ⟨e.b,0,none⟩)) ?_;go_frame;refine Rg.lr 36 (exec_pnilF _ _ rfl rfl rfl) ?_;go_frame;obtain ⟨xv9,yv,q9⟩:=SM.out.tm.en e HEM.out;have UY:=ι q9.y;have CY:=ι q9.c1;have HCY:=ι ((show Below w33.heap.size w33 w33.drew from (Below.refl _ _).drew).cell (p:=⟨e.b,1,none⟩) CY.out.lt);clear q9;go_upto_region 8 with (fail);have hV0:Below w33.heap.size w33 w33.drew:=(Below.refl _ _).drew;replace X:=ι (X.out.up hV0);replace SM:=ι (SM.out.up hV0);replace UY:=ι (UY.out.up hV0);generalize Fup F1 w33 w33.drew=F2 at *;clear hV0;refine Rg.Any.begin (S:=Rg.Both 9 (fun W:World=>W.cell? ⟨e.b,1,none⟩=some yv) (fun _=>True)) mix ?_
     generalize w33.drew=w34 at *;have hS:∀ (l:Array Bool) W,(fun W:World=>W.cell? ⟨e.b,1,none⟩=some yv) W→Rg.Both 9 (fun W:World=>W.cell? ⟨e.b,1,none⟩=some yv) (fun _=>True) l W:=fun l W h=>⟨.inr h,trivial⟩;have hS2:∀ (l:Array Bool) W,l.getD 9 false=true→Rg.Both 9 (fun W:World=>W.cell? ⟨e.b,1,none⟩=some yv) (fun _=>True) l W:=fun l W h=>⟨.inl h,trivial⟩;have hI:(fun W:World=>W.cell? ⟨e.b,1,none⟩=some yv) w34:=HCY.out.trans CY.out.c;refine Rg.tm 0 9 (.slice ua U.length uc) 45 (hS _ _ hI) ?_;go_frame;refine Rg.tm 1 9 (.pointer (some ⟨e.b,0,none⟩)) 46 (hS _ _ hI) ?_;go_frame;refine Rg.tm 4 9 (.slice (some ⟨xb,xo,none⟩) N xc) 49 (hS _ _ hI) ?_;go_frame;refine Rg.tm 5 9 (.pointer (some ⟨e.b,0,none⟩)) 50 (hS _ _ hI) ?_;go_frame;refine Rg.tg 6 9 (.pointer (some ⟨e.b,0,none⟩)) 51 rfl rfl (.inl ⟨rfl,fun w _=>exec_nil _ rfl rfl⟩) (hS _ _ hI) ?_;go_frame
     refine Rg.tg 7 9 (.pointer (some ⟨e.b,1,none⟩)) 52 rfl rfl (.inl ⟨rfl,fun w _=>exec_field _ rfl rfl (enF1 _ _)⟩) (hS _ _ hI) ?_;go_frame;refine Rg.Any.takeT (i:=8) (t:=9) (v:=yv) (some 53) rfl rfl (by kernel_rfl) (by kernel_rfl) (by kernel_rfl) (fun _ _ _ h=>h) rfl (by kernel_rfl) rfl (Rg.yields_cell _ _ rfl rfl ⟨e.b,1,none⟩ rfl (fun W hW=>Rg.run_loadSl _ _ Tryz.underlying30 hW)) (hS _ _ hI) ?_;go_frame;obtain ⟨a9,c9,X9,r1,hS9,hkf9,hk9⟩:=SM.out.push e (by omega) 102;have hba:Below w34.heap.size w34 (w34.alloc (.cells #[enP e] 110)):=(Below.refl _ _).alloc (Nat.le_refl _) _;have hcy1:w34.cell? ⟨e.b,1,none⟩=some yv:=HCY.out.trans CY.out.c
     have hlt1:e.b<w34.heap.size:=by
      obtain ⟨_,_,q8⟩:=SM.out.tm.en e HEM.out;exact q8.c0.lt
     have hI2_m:=(show (fun W:World=>W.cell? ⟨e.b,1,none⟩=some yv) (w34.alloc (.cells #[enP e] 110)) from (hba.cell (p:=⟨e.b,1,none⟩) hlt1).trans hcy1);refine Rg.Any.one (i:=2) (by kernel_rfl) (Rg.Any.run (some 47) rfl rfl rfl (Rg.exec_buildSlice _ _ _ rfl (.pointer (some ⟨e.b,0,none⟩)) rfl (run_build1E w34 _)) (hS _ _ hI2_m) ?_);go_frame
     have hcy9:X9.cell? ⟨e.b,1,none⟩=some yv:=(World.cell?_of_block (a:=⟨e.b,1,none⟩) (hk9.block e.b hlt1 (fun h=>by
      have:=SM.out.mlt e.b (.inr (.inr (.inr (.inr ⟨e,HEM.out,rfl⟩))));have:=(World.ownsRow.lt SM.out.row e.b h).1
      omega))).trans hcy1
     have hI3_m:=(show (fun W:World=>W.cell? ⟨e.b,1,none⟩=some yv) X9 from hcy9);refine Rg.Any.one (i:=3) (by kernel_rfl) (Rg.Any.run (some 48) rfl rfl rfl (Rg.exec_append _ _ _ rfl rfl rfl r1) (hS _ _ hI3_m) ?_);go_frame;replace X:=ι (FP.kf X.out hkf9);replace UY:=ι (FP.kf UY.out hkf9);replace SM:=ι hS9;clear hS9 hkf9 hk9 r1 hba hcy9 hcy1 hlt1;refine Rg.Any.one (i:=9) (by kernel_rfl) (Rg.Any.ask (some 54) rfl rfl rfl _ _ (exec_fn 44 _ _ _ rfl rfl rfl (Bgcl6 _ _)) ?_);refine (fcMul_f X.out UY.out GY.out GI.out hn1 hn2).mono ?_;rintro e1 w35 ⟨mv,rfl,hmv,hb⟩;have hI4_u:=trivial;clear hI3_m;replace X:=ι (X.out.up hb);replace SM:=ι (SM.out.up hb);replace UY:=ι (UY.out.up hb);have MV:=ι hmv;generalize Fup F2 X9 w35=F3 at *;clear hb;refine ⟨_,rfl,(hS2 _ _ rfl),?_⟩;go_frame;refine Rg.tg 10 9 (.slice a9 (U.length+1) c9) 4 rfl rfl (.inl ⟨rfl,fun w _=>Rg.exec_assign (v:=.slice a9 (U.length+1) c9) _ rfl rfl⟩) (hS2 _ _ rfl) ?_;go_frame
     refine Rg.tg 11 9 (mv) 1 rfl rfl (.inl ⟨rfl,fun w _=>Rg.exec_assign (v:=mv) _ rfl rfl⟩) (hS2 _ _ rfl) ?_;go_frame;refine Rg.Any.done (by kernel_rfl) ?_ _;clear hS2;clear hS hI4_u;go_upto_region 3 with (fail);refine Rg.wl ?_;refine Rg.lm 16 (.int .i64 ((i:Nat):Int)) ?_;go_frame;refine Rg.lr 17 (exec_bin (R:=.int .i64 (((i+1):Nat):Int)) .add _ _ _ rfl rfl rfl (b_add _ (by omega) (by omega))) ?_;go_frame;refine Rg.la 8 (.int .i64 (((i+1):Nat):Int)) ?_;go_frame;clear hmv;go_wp2
     go_roundw
     case rel=>exact ⟨i+1,_,_,U++[e],HIN.out,by go_num,MV,SM,GY2,HY,HU2,HUL2⟩
     case measure=>simp [intOf]; have:=HIN.out; omega

theorem Dhcl0 (args:Array Value) (w:World):(callFunc 65 args).run Tryz.prog w=.ok (.enter 65 args) w:=by kernel_rfl
theorem Dhcl1 (args:Array Value) (w:World):(callFunc 113 args).run Tryz.prog w=.ok (.enter 113 args) w:=by kernel_rfl
theorem Dhcl2 (args:Array Value) (w:World):(callFunc 114 args).run Tryz.prog w=.ok (.enter 114 args) w:=by kernel_rfl
abbrev key5 (e:En):Nat × Nat × Nat × List Nat × Nat:=(e.b,e.i,e.p,e.x,e.at_)
def pvL (T:List (List Nat)):List Nat→List Nat
 | []=>[]
 | a :: l=>l.foldl (fun y k=>Ma.mulN y (T.getD k [])) (T.getD a [])
theorem pvL_snoc {T:List (List Nat)} {l:List Nat} (h:1≤l.length) (k:Nat):pvL T (l++[k])=Ma.mulN (pvL T l) (T.getD k []):=by
 match l,h with
 | a :: l,_=>show (l++[k]).foldl _ _=_; rw [List.foldl_append]; rfl
theorem getD_pre {T T':List (List Nat)} (h:T <+: T') {k:Nat} (hk:∃ z,T[k]?=some z):T'.getD k []=T.getD k []:=by
 obtain ⟨z,hz⟩:=hk;rw [List.getD_eq_getElem?_getD,List.getD_eq_getElem?_getD,hz,pre_at h hz]
theorem pvL_mono {T T':List (List Nat)} (h:T <+: T') {l:List Nat} (hl:∀ k∈l,∃ z,T[k]?=some z):pvL T' l=pvL T l:=by
 match l,hl with
 | [],_=>rfl
 | a :: l,hl =>
  show l.foldl (fun y k=>Ma.mulN y (T'.getD k [])) (T'.getD a [])=l.foldl (fun y k=>Ma.mulN y (T.getD k [])) (T.getD a []);rw [getD_pre h (hl a (List.mem_cons_self ..))];have hl2:∀ k∈l,∃ z,T[k]?=some z:=fun k hk=>hl k (List.mem_cons_of_mem _ hk);clear hl;generalize T.getD a []=y0
  induction l generalizing y0 with
  | nil=>rfl
  | cons b l ih =>
   show l.foldl _ (Ma.mulN y0 (T'.getD b []))=l.foldl _ (Ma.mulN y0 (T.getD b []));rw [getD_pre h (hl2 b (List.mem_cons_self ..))];exact ih (fun k hk=>hl2 k (List.mem_cons_of_mem _ hk)) _
structure InsR (N:Nat) (gs:List (List Nat)) (S:List Stp) (T:List (List Nat)) (es:List En) (x:List Nat) (S':List Stp) (T':List (List Nat)) (es':List En):Prop where
 tb:Tb N gs S' T' es'
 pre:T <+: T'
 key:es.map key5 <+: es'.map key5
 mono:∀ i p u,Cm.idT N (trE es) i p=some u→Cm.idT N (trE es') i p=some u
 sd:Cm.Sd N (Cm.idT N (trE es')) N x
 bd:S'.length+es.length*(2*N+2)≤S.length+es'.length*(2*N+2)
theorem InsR.same {N:Nat} {gs:List (List Nat)} (hg:∀ s∈gs,Cm.Gd N s) {S:List Stp} {T:List (List Nat)} {es:List En} {x:List Nat} (h:Tb N gs S T es) (hx:Cm.Gr N (·∈gs) x) (hA:¬ (Cm.sfP N (Cm.idT N (trE es)) N x).1<N):InsR N gs S T es x S T es :=
 ⟨h,List.prefix_rfl,List.prefix_rfl,fun _ _ _=>id,h.same hg hx hA,Nat.le_refl _⟩
structure IvR (N:Nat) (gs:List (List Nat)) (S:List Stp) (T:List (List Nat)) (es:List En) (m:Nat) (x:List Nat) (U:List En) (k:Nat) (S1:List Stp) (T1:List (List Nat)) (es1:List En) (parts1:List Nat):Prop where
 tb:Tb N gs S1 T1 es1
 pre:T <+: T1
 tr:trE es1=trE es
 key:es1.map key5=es.map key5
 sl:S1.length≤S.length+k
 pl:parts1.length=m+k
 pa:∀ j∈parts1,∃ z,T1[j]?=some z
 pv:pvL T1 parts1=(U.take k).foldl (fun y e=>Ma.mulN y (Ma.invN e.x)) x
theorem key5_mem {es es1:List En} (h:es1.map key5=es.map key5) {e:En} (he:e∈es):∃ e1∈es1,e1.b=e.b∧e1.x=e.x:=by
 have h1:key5 e∈es1.map key5:=by rw [h]; exact List.mem_map_of_mem he
 obtain ⟨e1,h2,h3⟩:=List.mem_map.1 h1;simp only [key5,Prod.mk.injEq] at h3;exact ⟨e1,h2,h3.1,h3.2.2.2.1⟩
theorem IvR.step {N:Nat} {gs:List (List Nat)} {S:List Stp} {T:List (List Nat)} {es:List En} {m:Nat} (hm:1≤m) {x:List Nat} {U:List En} {k:Nat} {S1:List Stp} {T1:List (List Nat)} {es1:List En} {parts1:List Nat} (h:IvR N gs S T es m x U k S1 T1 es1 parts1) {e:En} (he:U[k]?=some e)
  {S2:List Stp} {T2:List (List Nat)} {es2:List En} {j:Nat} (hj:T2[j]?=some (Ma.invN e.x)) (hT:T1 <+: T2) (hS:S2.length≤S1.length+1) (htb:Tb N gs S2 T2 es2) (htr:trE es2=trE es1) (hk:es2.map key5=es1.map key5):IvR N gs S T es m x U (k+1) S2 T2 es2 (parts1++[j]):=by
 obtain ⟨hkl,he2⟩:=List.getElem?_eq_some_iff.1 he;have hsl:=h.sl;have hpl:=h.pl;refine ⟨htb,h.pre.trans hT,htr.trans h.tr,hk.trans h.key,by omega,by rw [List.length_append,hpl]; rfl,fun q hq=>?_,?_⟩
 ·rcases List.mem_append.1 hq with hq | hq
  ·obtain ⟨z,hz⟩:=h.pa q hq
   exact ⟨z,pre_at hT hz⟩
  ·rw [List.mem_singleton] at hq; subst hq; exact ⟨_,hj⟩
 ·rw [pvL_snoc (by omega),pvL_mono hT h.pa,h.pv,List.take_succ_eq_append_getElem hkl,List.foldl_append,he2,List.getD_eq_getElem?_getD,hj]
  rfl
theorem IvR.put {N:Nat} {gs:List (List Nat)} (hg:∀ s∈gs,Cm.Gd N s) {S:List Stp} {T:List (List Nat)} {es:List En} {m:Nat} {x:List Nat} {U:List En} {S1:List Stp} {T1:List (List Nat)} {es1:List En} {parts1:List Nat} (h:IvR N gs S T es m x U U.length S1 T1 es1 parts1) (hU:U.length≤N) (hm:m≤2) (hgx:Cm.Gr N (·∈gs) x)
  {i:Nat} {y:List Nat} (hA:Cm.sfP N (Cm.idT N (trE es)) N x=(i,y)) (hi:i<N) {S2:List Stp} {T2:List (List Nat)} {n a:Nat} (hn:n+1=parts1.length) (hS2:S2.length=S1.length+n) (hMk:Mk N gs S2 T2) (hT:T1 <+: T2) (ha:T2[a]?=some y) (b:Nat) :
  InsR N gs S T es x S2 T2 (es1++[⟨b,i,Cm.ap y i,y,a,-1⟩]):=by
 have hA1:Cm.sfP N (Cm.idT N (trE es1)) N x=(i,y):=by rw [h.tr]; exact hA
 obtain ⟨q1,q2,q3⟩:=(h.tb.grow hMk hT).put hg hgx hA1 hi (b:=b) ha
 have hl:es1.length=es.length:=by have:=congrArg List.length h.key; simpa using this
 have hpl:=h.pl;have hsl:=h.sl;refine ⟨q1,h.pre.trans hT,?_,by rw [← h.tr]; exact q2,q3,?_⟩
 ·rw [List.map_append,h.key]; exact ⟨_,rfl⟩
 ·rw [List.length_append,hl,List.length_singleton,Nat.add_mul]
  omega
theorem usE_fnd {es:List En} {N:Nat} {S:List Stp} {T gs:List (List Nat)} (h:Tb N gs S T es) {x y:List Nat} (gx:Cm.Gd N x) {i:Nat} (hA:Cm.sfP N (Cm.idT N (trE es)) N x=(i,y)) (hi:i<N):fnd es i (Cm.ap y i)=none:=by
 obtain ⟨a1,_,a3,a4,a5⟩:=Cm.sfP_all h.ok.rp (Nat.le_refl N) (by omega) gx (fun j hj=>absurd hj (by omega));rw [hA] at a5;have a5:=a5 hi
 have hne:Cm.ap y i≠i:=fun e=>by rw [e,Cm.idT_self] at a5; cases a5
 rw [idT_at hne] at a5;exact Option.map_eq_none_iff.1 a5
theorem fnd_tr {es es1:List En} (h:trE es1=trE es) {i p:Nat} (hn:fnd es i p=none):fnd es1 i p=none:=by
 have:=congrFun (congrFun h i) p;unfold trE at this;rw [hn] at this;exact Option.map_eq_none_iff.1 this
theorem Gw.trans_or {F M F1 M1 F2 M2 P:Nat→Prop} {w w1 w2:World} (h:Gw F M w F1 (fun k=>M1 k∨P k) w1) (h':Gw F1 M1 w1 F2 M2 w2):Gw F M w F2 (fun k=>M2 k∨P k) w2:=by
 have hs:=h.kp.size;refine ⟨h.kg.trans h'.kg,Rg.Kp.trans h.kp h'.kp (fun k hk hm=>?_),fun k hk=>?_,fun k hk=>?_⟩
 ·rcases h.nM k (.inl hm) with e | e
  ·exact e
  ·omega
 ·rcases h'.nF k hk with e | e
  ·exact h.nF k e
  ·exact .inr (by omega)
 ·rcases hk with hk | hk
  ·rcases h'.nM k hk with e | e
   ·exact h.nM k (.inl e)
   ·exact .inr (by omega)
  ·exact h.nM k (.inr hk)
theorem Gw.put_or {F M F1 M1 P P2:Nat→Prop} {w w1 w2:World} (h:Gw F M w F1 (fun k=>M1 k∨P k) w1) (hk:Rg.Kp P w1 w2) (hF:∀ k,F1 k→¬ P k) (hP:∀ k,P2 k→P k∨w1.heap.size≤k):Gw F M w F1 (fun k=>M1 k∨P2 k) w2:=by
 have hs:=h.kp.size;refine ⟨h.kg.kf' (hk.weak fun k hp hf=>hF k hf hp),Rg.Kp.trans h.kp hk (fun k hk hp=>?_),h.nF,fun k hk=>?_⟩
 ·rcases h.nM k (.inr hp) with e | e
  ·exact e
  ·omega
 ·rcases hk with hk | hk
  ·exact h.nM k (.inl hk)
  ·rcases hP k hk with e | e
   ·exact h.nM k (.inr e)
   ·exact .inr (by omega)
theorem Gw.less {F M F1 M1 M2:Nat→Prop} {w w1:World} (h:Gw F M w F1 M1 w1) (hM:∀ k,M2 k→M1 k):Gw F M w F1 M2 w1:=⟨h.kg,h.kp,h.nF,fun k hk=>h.nM k (hM k hk)⟩
theorem rdv_of {M:Nat→Prop} {W:World} {B:Nat} {e:TypeId} {v:Value} {n:Nat} {us:List Value} (h:W.ownsRow B e 1 v n us) (hM:∀ k,v.ownBlock=some k→¬ M k):∃ a c,v=.slice a n c∧RdV M W a us:=by
 have hl:us.length=n:=by have:=h.1; omega
 obtain ⟨a,c,hs⟩:=Rg.row_shape h;subst hs;refine ⟨a,c,rfl,fun h0=>?_⟩;obtain ⟨g,c',u,e1,e2,e3,e4⟩:=row_of h (k:=0) (by omega);simp only [Value.slice.injEq,true_and] at e1;obtain ⟨rfl,rfl⟩:=e1;refine ⟨g,0,rfl,e4,hM g rfl,fun i hi=>?_⟩;obtain ⟨g',c',u,e1,e2,e3,e4⟩:=row_of h (k:=i) (by omega);simp only [Value.slice.injEq,Option.some.injEq,Addr.mk.injEq,and_true,true_and] at e1;obtain ⟨rfl,rfl⟩:=e1;rw [e2,← e3,List.getElem?_eq_getElem hi]
abbrev RdF (F:Nat→Prop) (W:World) (ad:Option Addr) (us:List Value):Prop:=RdV (fun z=>¬ F z) W ad us
theorem RdF.kf {F:Nat→Prop} {w w':World} {ad:Option Addr} {us:List Value} (h:RdF F w ad us) (hk:KF F w w'):RdF F w' ad us:=RdV.kp h hk (fun _ _ e=>e) (fun _ _ e=>e)
theorem RdF.kg {F F':Nat→Prop} {w w':World} {ad:Option Addr} {us:List Value} (h:RdF F w ad us) (hk:KG F w F' w'):RdF F' w' ad us:=RdV.kp h hk.kf (fun _ _ e=>e) (fun k _ e h=>e (hk.sub k h))
theorem RdF.up {F:Nat→Prop} {w w':World} {ad:Option Addr} {us:List Value} (h:RdF F w ad us) (hb:Below w.heap.size w w'):RdF (Fup F w w') w' ad us:=RdV.kp (N:=fun _=>False) h (Rg.Kp.of_below hb) (fun _ _=>False.elim) (fun k _ e h=>e (.inl h))
def SiQ (B:Nat) (F:Nat→Prop) (tb mb N:Nat) (S:List Stp) (nx:Nat) (es:List En) (sv lv:Value) (U:List En) (A:Nat × List Nat) (w:World) (ed:Ending) (w':World):Prop :=
 ∃ (F':Nat→Prop) (ua:Option Addr) (uc:Nat) (rv:Value) (x y:Int),ed=.returned (.tuple #[.slice ua U.length uc,rv,.agg #[.int .i64 x,.int .i64 y],.bool (decide (A.1<N))])∧(A.1<N→x=((A.1:Nat):Int)∧y=((Cm.ap A.2 A.1:Nat):Int)) ∧
  TbM B F' tb mb N w' S nx es es es sv lv∧(∀ M,Gw F M w F' M w')∧RdF F' w' ua (U.map enP)∧FP F' w' rv A.2
theorem sift_q {B:Nat} {F0:Nat→Prop} {tb mb N:Nat} {w:World} {gs:List (List Nat)} {S:List Stp} {T:List (List Nat)} {nx:Nat} {es:List En} {sv lv:Value} (hp:Tb N gs S T es) (h:TbM B F0 tb mb N w S nx es es es sv lv) (hn1:1≤N) (hn2:N≤64) {xv:Value} {x:List Nat} (hx:FP F0 w xv x) (gx:Cm.Gd N x) :
  Calls Tryz.prog 65 #[.pointer (some ⟨tb,0,none⟩),xv] w (SiQ B F0 tb mb N S nx es sv lv (usE es N N x) (Cm.sfP N (Cm.idT N (trE es)) N x) w):=by
 have hM:=h.Mlt;refine (sift_t hp h hn1 hn2 hx gx).mono ?_;rintro e w' ⟨F',uv,rv,x9,y9,rfl,h1,h2,h3,h4,h5,h6,h7⟩;have hlt:∀ k,uv.ownBlock=some k→w.heap.size≤k∧k<w'.heap.size:=fun k e=>World.ownsRow.lt h5 k e;obtain ⟨ua,uc,hs,hr⟩:=rdv_of (M:=fun z=>¬ (fun z=>F' z∨uv.ownBlock=some z) z) h5 (fun k e h=>h (.inr e))
 have hg:∀ M,Gw F0 M w (fun z=>F' z∨uv.ownBlock=some z) M w':=fun M=>by
  have g:=h3 M;refine ⟨⟨fun k hk=>.inl (g.kg.sub k hk),fun k hk=>hk.elim (g.kg.lt k) (fun e=>(hlt k e).2),g.kg.kf⟩,g.kp,fun k hk=>hk.elim (g.nF k) (fun e=>.inr (hlt k e).1),g.nM⟩
 have ht:TbM B (fun z=>F' z∨uv.ownBlock=some z) tb mb N w' S nx es es es sv lv:=h2.mono (fun k=>.inl) (fun k hk=>hk.elim (h2.Flt k) (fun e=>(hlt k e).2)) (fun k hk hm=>hk.elim (fun e=>h2.nF k e hm) (fun e=>by
  have:=(hlt k e).1;have:=hM k hm
  omega))
 have hfp:FP (fun z=>F' z∨uv.ownBlock=some z) w' rv (Cm.sfP N (Cm.idT N (trE es)) N x).2:=h7.mono fun k=>.inl;generalize (fun z=>F' z∨uv.ownBlock=some z)=F2 at *;subst hs;exact ⟨F2,ua,uc,rv,x9,y9,rfl,h1,ht,hg,hr,hfp⟩
theorem RdV.up {M:Nat→Prop} {w w':World} {ad:Option Addr} {us:List Value} (h:RdV M w ad us) (hb:Below w.heap.size w w'):RdV M w' ad us:=h.below hb
theorem run_sliceN1 (b o m c:Nat) (h:m≤c):∃ ca:Addr,(∀ w:World,(Instr.sliceAt 25 (.slice (some ⟨b,o,none⟩) (m+1) (c+1)) (some (.int .i64 1)) none none).run Tryz.prog w=.ok (.slice (some ca) m c) w)∧(0<m→ca=⟨b,o+1,none⟩):=by
 by_cases e:c=0
 ·refine ⟨⟨b,o,none⟩,fun w=>?_,fun h=>by omega⟩
  obtain rfl:m=0:=by omega
  subst e;simp [Instr.sliceAt,Instr.slice,run_underlying Tryz.underlying25,Instr.sliceBounds,Instr.sliceBound,asIntOf,Addr.add]
 ·refine ⟨⟨b,o+1,none⟩,fun w=>?_,fun _=>rfl⟩
  simp [Instr.sliceAt,Instr.slice,run_underlying Tryz.underlying25,Instr.sliceBounds,Instr.sliceBound,asIntOf,Addr.add,e];intro hh;omega
theorem RwI.split {F M:Nat→Prop} {W:World} {v:Value} {a:Nat} {l:List Nat} (h:RwI F M W v ((a :: l).map fun k:Nat=>((k:Nat):Int))):∃ g c ca,v=.slice (some ⟨g,0,none⟩) (l.length+1) (c+1)∧W.cell? ⟨g,0+0,none⟩=some (.int .i64 ((a:Nat):Int))∧g<W.heap.size ∧
  (∀ w:World,(Instr.sliceAt 25 (.slice (some ⟨g,0,none⟩) (l.length+1) (c+1)) (some (.int .i64 1)) none none).run Tryz.prog w=.ok (.slice (some ca) l.length c) w)∧RdV M W (some ca) (l.map fun k:Nat=>Value.int .i64 ((k:Nat):Int)):=by
 obtain ⟨B,h0,h1⟩:=h.own
 have hlen:((a :: l).map fun k:Nat=>((k:Nat):Int)).length=l.length+1:=by simp
 rw [hlen] at h1;obtain ⟨g,c0,u,e1,e2,e3,e4⟩:=row_of h1 (k:=0) (by omega)
 have hu:u=.int .i64 ((a:Nat):Int):=by
  rw [List.map_cons,List.map_cons,List.getElem?_cons_zero] at e3;exact (Option.some.inj e3).symm
 have hcap:l.length+1≤c0:=by
  obtain ⟨q1,q2⟩:=h1
  rcases q2 with ⟨q3,_⟩ | ⟨g',cap,cur,q3,_,_,q4,_⟩
  ·rw [q3] at e1; simp at e1
  ·rw [q3] at e1
   simp only [Value.slice.injEq,true_and] at e1;omega
 obtain ⟨c,rfl⟩:∃ c,c0=c+1:=⟨c0 - 1,by omega⟩;obtain ⟨ca,r1,r2⟩:=run_sliceN1 g 0 l.length c (by omega);refine ⟨g,c,ca,e1,by rw [e2,hu],e4,r1,fun hl=>?_⟩;rw [List.length_map] at hl;refine ⟨g,0+1,by rw [r2 hl],e4,(h.off g (by rw [e1]; rfl)).2.1,fun i hi=>?_⟩;rw [List.length_map] at hi;obtain ⟨g',c',u',f1,f2,f3,f4⟩:=row_of h1 (k:=i+1) (by omega);rw [e1] at f1;simp only [Value.slice.injEq,Option.some.injEq,Addr.mk.injEq,and_true,true_and] at f1;obtain ⟨rfl,_⟩:=f1;rw [show 0+1+i=0+(i+1) by omega,f2,← f3,List.map_cons,List.map_cons,List.getElem?_cons_succ,List.getElem?_map,List.getElem?_map,List.getElem_map,List.getElem?_eq_getElem hi];rfl
theorem Pw.fresh (W:World) (x y:Int):∃ W2,(storeVar 106 ⟨W.heap.size,0,none⟩ (.agg #[.int .i64 x,.int .i64 y])).run Tryz.prog (W.alloc (.cells #[.int .i64 0,.int .i64 0] 106))=.ok () W2∧Pw W2 W.heap.size x y∧Below W.heap.size W W2 :=
 ⟨_,(Pw.new W).run x y,(Pw.new W).set x y,(((Below.refl _ _).alloc (Nat.le_refl _) _).setCell (p:=⟨W.heap.size,0,none⟩) (Nat.le_refl _) _).setCell (p:=⟨W.heap.size,1,none⟩) (Nat.le_refl _) _⟩
def InP (B:Nat) (F:Nat→Prop) (tb mb N:Nat) (gs:List (List Nat)) (S:List Stp) (T:List (List Nat)) (es:List En) (sv lv pv:Value) (x:List Nat) (w:World) (ed:Ending) (w':World):Prop :=
 ∃ (F':Nat→Prop) (sv' lv':Value) (S':List Stp) (T':List (List Nat)) (es':List En),ed=.returned (.tuple #[])∧InsR N gs S T es x S' T' es'∧TbM B F' tb mb N w' S' T'.length es' es' es' sv' lv'∧Gw F (fun k=>tbS tb mb es sv lv k∨pv.ownBlock=some k) w F' (tbS tb mb es' sv' lv') w'
theorem insert_t {B:Nat} {F0:Nat→Prop} {tb mb N:Nat} {w:World} {gs:List (List Nat)} {S:List Stp} {T:List (List Nat)} {es:List En} {sv lv:Value} (hg:∀ s∈gs,Cm.Gd N s) (hp:Tb N gs S T es) (h:TbM B F0 tb mb N w S T.length es es es sv lv) (hn1:1≤N) (hn2:N≤16) {xv:Value} {x:List Nat} (hx:FP F0 w xv x) (hgx:Cm.Gr N (·∈gs) x)
  {parts:List Nat} {pv:Value} (hpr:RwI F0 (tbS tb mb es sv lv) w pv (parts.map fun k:Nat=>((k:Nat):Int))) (hp1:1≤parts.length∧parts.length≤2) (hpa:∀ k∈parts,∃ z,T[k]?=some z) (hpv:pvL T parts=x) (hT:T.length<50000) :
  Calls Tryz.prog 91 #[.pointer (some ⟨tb,0,none⟩),xv,pv] w (InP B F0 tb mb N gs S T es sv lv pv x w):=by
 have gx:=(Cm.Gr.isG hg).gd x hgx;obtain ⟨pa0,pc0,hps⟩:=hpr.shape;subst hps;have HG:=ι hg;have HGX:=ι hgx;have HP:=ι hp;have HPA:=ι hpa;have HPV:=ι hpv;have HTL:=ι hT;have HPL:=ι hp1;have GX:=ι gx;have HFW:=ι hp.few;obtain ⟨A,hA⟩:∃ A,Hid (Cm.sfP N (Cm.idT N (trE es)) N x=A):=⟨_,ι rfl⟩;obtain ⟨U,hU⟩:∃ U,Hid (usE es N N x=U):=⟨_,ι rfl⟩;obtain ⟨ul,hul⟩:∃ n,Hid (U.length=n):=⟨_,ι rfl⟩;obtain ⟨fb,hfb⟩:∃ b,Hid (decide (A.1<N)=b):=⟨_,ι rfl⟩;have HUV:=ι (show A.2=U.foldl (fun y e=>Ma.mulN y (Ma.invN e.x)) x by rw [← hA.out,← hU.out]; exact usE_val (fun e he=>(hp.en e he).gd) (Nat.le_refl _) gx);have HUL:=ι (show U.length≤N by rw [← hU.out]; exact usE_len _ _ _ _);have HUM:=ι (show ∀ e∈U,e∈es from fun e he=>by rw [← hU.out] at he; exact usE_mem he);have K:=ι (Gw.refl (M:=fun k=>tbS tb mb es sv lv k∨(Value.slice pa0 (parts.map fun k:Nat=>((k:Nat):Int)).length pc0).ownBlock=some k) h.Flt)
 have hb:Below w.heap.size w (w.alloc (.cells #[.pointer (some ⟨tb,0,none⟩)] 98)):=(Below.refl _ _).alloc (Nat.le_refl _) _;have TM:=ι (h.up hb);replace K:=ι (K.out.up hb);have RW:=ι (hpr.up hb);have X:=ι (hx.up hb);have C:=ι (show CF (Fup F0 w (w.alloc (.cells #[.pointer (some ⟨tb,0,none⟩)] 98))) (w.alloc (.cells #[.pointer (some ⟨tb,0,none⟩)] 98)) w.heap.size 0 (.pointer (some ⟨tb,0,none⟩)) from ⟨by rw [Rg.cellNew]; rfl,.inr ⟨Nat.le_refl _,by simp⟩,by simp⟩);obtain ⟨tp,htp⟩:∃ b,b=w.heap.size:=⟨_,rfl⟩;clear hg hgx hp hpa hpv hT hp1 gx h hx hpr hb
 go_enter Tryz.func91,Tryz.ntmps91
 go_upto_region 0 with (fail);refine Rg.wl ?_;refine Rg.lr 3 (exec_boxV (v:=.pointer (some ⟨tb,0,none⟩)) _ _ rfl rfl rfl) ?_;go_frame;generalize Fup F0 w (w.alloc (.cells #[.pointer (some ⟨tb,0,none⟩)] 98))=F1 at *;rw [← htp] at C;generalize w.alloc (.cells #[.pointer (some ⟨tb,0,none⟩)] 98)=w0 at *;rw [← htp];clear htp;go_upto_region 1 with (fail);refine Rg.wl ?_;refine Rg.lr 15 (Rg.exec_load (v:=.pointer (some ⟨tb,0,none⟩)) _ _ rfl ⟨tp,0,none⟩ rfl (Rg.run_loadPtr _ _ Tryz.underlying98 C.out.cell)) ?_;go_frame;refine Rg.lm 16 (xv) ?_;go_frame;refine Rg.lk 17 (exec_fn 65 _ _ _ rfl rfl rfl (Dhcl0 _ _)) ?_;refine (sift_q HP.out TM.out hn1 (by omega) X.out GX.out).mono ?_;rintro e1 w1 ⟨F9,ua,uc,rv9,x9,y9,rfl,hxy9,hT9,hgm9,hud9,hr9⟩;rw [hU.out] at hud9 ⊢;rw [hul.out,hA.out];rw [hA.out] at hxy9 hr9;rw [hfb.out];have hg9:=hgm9 (tbS tb mb es sv lv);have hg9x:=hgm9 (fun k=>tbS tb mb es sv lv k∨(Value.slice pa0 (parts.map fun k:Nat=>((k:Nat):Int)).length pc0).ownBlock=some k)
 have nTM:=hT9;have nRW:=RW.out.gw hg9;have nC:=C.out.kg hg9.kg;refine ⟨_,rfl,?_⟩;go_frame;clear X;replace TM:=ι nTM;replace RW:=ι nRW;replace C:=ι nC;replace K:=ι (K.out.trans hg9x);have RV:=ι hr9;have UD:=ι hud9;clear hg9x nTM nRW nC;refine Rg.lm 14 (.tuple #[.slice ua ul uc,rv9,(.agg #[.int .i64 x9,.int .i64 y9]),.bool fb]) ?_;go_frame;refine Rg.lr 18 (exec_extract (v:=.slice ua ul uc) _ _ rfl rfl rfl) ?_;go_frame;refine Rg.lr 19 (exec_extract (v:=rv9) _ _ rfl rfl rfl) ?_;go_frame;refine Rg.lr 20 (exec_extract (v:=(.agg #[.int .i64 x9,.int .i64 y9])) _ _ rfl rfl rfl) ?_;go_frame;refine Rg.lr 21 (exec_extract (v:=.bool fb) _ _ rfl rfl rfl) ?_;go_frame;obtain ⟨W2,hst,hpw,hb9⟩:=Pw.fresh w1 x9 y9;refine Rg.lr 8 (exec_allocP2 rfl) ?_;go_frame;refine Rg.la 6 (.slice ua ul uc) ?_;go_frame;refine Rg.la 7 (rv9) ?_;go_frame;refine Rg.list_skip none rfl rfl (Rg.exec_store _ _ _ rfl _ rfl _ rfl hst) ?_;go_frame
 refine Rg.la 9 (.bool fb) ?_;go_frame;have AB0:=ι (show CF (Fup F9 w1 W2) W2 w1.heap.size 0 (.int .i64 x9) from ⟨hpw.c0.c,.inr ⟨Nat.le_refl _,hpw.c0.lt⟩,hpw.c0.lt⟩);have AB1:=ι (show CF (Fup F9 w1 W2) W2 w1.heap.size 1 (.int .i64 y9) from ⟨hpw.c1.c,.inr ⟨Nat.le_refl _,hpw.c1.lt⟩,hpw.c1.lt⟩);clear hgm9 hst hpw hr9 hud9;have HXY:=ι hxy9;clear hxy9;obtain ⟨ab,hab⟩:∃ b,b=w1.heap.size:=⟨_,rfl⟩;rw [← hab] at AB0 AB1 ⊢;clear hab;replace TM:=ι (TM.out.up hb9);replace RW:=ι (RW.out.up hb9);replace C:=ι (C.out.up hb9);replace RV:=ι (RV.out.up hb9);replace UD:=ι (UD.out.up hb9);replace K:=ι (K.out.up hb9);generalize Fup F9 w1 W2=F2 at *;clear hb9
 cases fb with
 | false =>
  go_upto_region 2 with (fail);refine Rg.wl ?_;refine Rg.lm 22 (.bool false) ?_;go_frame;refine Rg.lr 23 (exec_not _ _ false rfl rfl) ?_;go_frame;have HNO:=ι (show ¬ (Cm.sfP N (Cm.idT N (trE es)) N x).1<N by rw [hA.out]; exact of_decide_eq_false hfb.out);go_wp2
  first
  | go_end0
  | refine bodyPost_ret (results_none rfl _ _ _) rfl ?_
  exact ⟨_,_,_,_,_,_,rfl,InsR.same HG.out HP.out HGX.out HNO.out,TM.out,K.out.less fun k=>.inl⟩
 | true =>
  have HLT:=ι (of_decide_eq_true hfb.out);have HX9:=ι (HXY.out HLT.out);obtain ⟨i0,hi0⟩:∃ i,Hid (A.1=i):=⟨_,ι rfl⟩;obtain ⟨y0,hy0⟩:∃ y,Hid (A.2=y):=⟨_,ι rfl⟩;have HAI:=ι (show A=(i0,y0) by rw [← hi0.out,← hy0.out]);have HIN:=ι (show i0<N by rw [← hi0.out]; exact HLT.out)
  have hxe:x9=((i0:Nat):Int):=by rw [← hi0.out]; exact HX9.out.1
  have hye:y9=((Cm.ap y0 i0:Nat):Int):=by rw [← hi0.out,← hy0.out]; exact HX9.out.2
  rw [hxe] at AB0;rw [hye] at AB1;rw [hy0.out] at RV
  have GY:=ι (show Cm.Gd N y0 by
   have:=(Cm.sfP_all HP.out.ok.rp (Nat.le_refl N) (by omega) GX.out (fun j hj=>absurd hj (by omega))).2.2.1
   rw [hA.out,HAI.out] at this; exact this)
  have HNF:=ι (show fnd es i0 (Cm.ap y0 i0)=none from usE_fnd HP.out GX.out (by rw [hA.out,HAI.out]) HIN.out);have HYV:=ι (show y0=U.foldl (fun y e=>Ma.mulN y (Ma.invN e.x)) x by rw [← HUV.out,hy0.out]);clear HX9 HXY hxe hye;obtain ⟨q0,hq0⟩:∃ q,Hid (Cm.ap y0 i0=q):=⟨_,ι rfl⟩;rw [hq0.out] at AB1 HNF;have IV:=ι (show IvR N gs S T es parts.length x U 0 S T es parts from ⟨HP.out,List.prefix_rfl,rfl,rfl,Nat.le_refl _,rfl,HPA.out,HPV.out⟩)
  have hul16:ul≤16:=by have:=HUL.out; have:=hul.out; omega
  go_upto_region 2 with (fail);refine Rg.wl ?_;refine Rg.lm 22 (.bool true) ?_;go_frame;refine Rg.lr 23 (exec_not _ _ true rfl rfl) ?_;go_frame;go_upto_region 3 with (fail);refine Rg.wl ?_;refine Rg.lm 24 (.slice ua ul uc) ?_;go_frame;refine Rg.lr 25 (exec_len _ _ _ rfl Tryz.underlying102 _ _ _ rfl) ?_;go_frame;refine Rg.lm 26 (.int .i64 ((0:Nat):Int)) ?_;go_frame;obtain ⟨rb,ro,rc,hrv⟩:=RV.out.shape' GY.out hn1;subst hrv;clear HAI;go_wp2
  go_loopw [2,26] (fun pvv iv wr=>∃ (k:Nat) (F1:Nat→Prop) (sv1:Value) (S1:List Stp) (T1:List (List Nat)) (es1:List En) (parts1:List Nat),iv=.int .i64 ((k:Nat):Int)∧k≤ul∧Hid (IvR N gs S T es parts.length x U k S1 T1 es1 parts1)∧Hid (TbM B F1 tb mb N wr S1 T1.length es1 es1 es1 sv1 lv) ∧
   Hid (Gw F0 (fun k=>tbS tb mb es sv lv k∨(Value.slice pa0 (parts.map fun k:Nat=>((k:Nat):Int)).length pc0).ownBlock=some k) w F1 (fun k=>tbS tb mb es1 sv1 lv k∨pvv.ownBlock=some k) wr)∧Hid (RwI F1 (tbS tb mb es1 sv1 lv) wr pvv (parts1.map fun k:Nat=>((k:Nat):Int)))∧Hid (CF F1 wr tp 0 (.pointer (some ⟨tb,0,none⟩)))∧Hid (FP F1 wr (.slice (some ⟨rb,ro,none⟩) N rc) y0)∧Hid (RdF F1 wr ua (U.map enP))∧Hid (CF F1 wr ab 0 (.int .i64 ((i0:Nat):Int)))∧Hid (CF F1 wr ab 1 (.int .i64 ((q0:Nat):Int)))) (fun _ iv _=>ul - (intOf iv).toNat)
  case atStart=>exact ⟨0,_,sv,S,T,es,parts,rfl,Nat.zero_le _,IV,TM,K,RW,C,RV,UD,AB0,AB1⟩
  case round =>
   clear IV TM K RW C RV UD AB0 AB1;obtain ⟨k,F1,sv1,S1,T1,es1,parts1,rfl,hk,IV,TM,K,RW,C,RV,UD,AB0,AB1⟩:=hrel;obtain ⟨pa1,pc1,hps⟩:=RW.out.shape;subst hps
   have HT1:=ι (show T1.length≤50020∧S1.length<100000∧parts1.length≤20 by
    have a1:=IV.out.tb.sk.len;have a2:=HP.out.sk.len;have a3:=IV.out.sl;have a4:=IV.out.pl;have a5:=HPL.out;have a6:=HTL.out
    omega)
   by_cases hkl:k<ul
   case pos =>
    have HKL:=ι hkl
    have hkU:k<U.length:=by rw [hul.out]; exact hkl
    obtain ⟨ug,uo,e1,hg,-,hc⟩:=UD.out (by rw [List.length_map]; omega);subst e1;obtain ⟨e,he⟩:∃ e,Hid (U[k]'hkU=e):=⟨_,ι rfl⟩;have hc:=hc k (by rw [List.length_map]; exact hkU);rw [List.getElem_map,he.out] at hc;have CX:=ι (CL.mk hc hg);have HUK:=ι (show U[k]?=some e by rw [List.getElem?_eq_getElem hkU,he.out]);have HEB:=ι (key5_mem IV.out.key (HUM.out e (he.out▸List.getElem_mem hkU)));clear hc hg;go_upto_region 4 with (fail);refine Rg.wl ?_;refine Rg.lr 27 (exec_bin (R:=.bool true) .lss _ _ _ rfl rfl rfl (b_lss _ Rg.dT)) ?_;go_frame;go_upto_region 5 with (fail);refine Rg.wl ?_;refine Rg.lr 28 (exec_indexS slEnts _ _ rfl ug (uo) (ul) uc (k) rfl rfl HKL.out) ?_;go_frame;refine Rg.lr 29 (Rg.exec_load (v:=.pointer (some ⟨e.b,0,none⟩)) _ _ rfl ⟨ug,uo+k,none⟩ rfl (Rg.run_loadPtr _ _ Tryz.underlying110 CX.out.cell)) ?_;go_frame;refine Rg.la 11 (.pointer (some ⟨e.b,0,none⟩)) ?_;go_frame
    go_upto_region 6 with (fail);refine Rg.wl ?_;refine Rg.lm 30 (.slice pa1 (parts1.map fun k:Nat=>((k:Nat):Int)).length pc1) ?_;go_frame;refine Rg.lr 31 (Rg.exec_load (v:=.pointer (some ⟨tb,0,none⟩)) _ _ rfl ⟨tp,0,none⟩ rfl (Rg.run_loadPtr _ _ Tryz.underlying98 C.out.cell)) ?_;go_frame;refine Rg.lm 32 (.pointer (some ⟨e.b,0,none⟩)) ?_;go_frame;refine Rg.lk 33 (exec_fn 113 _ _ _ rfl rfl rfl (Dhcl1 _ _)) ?_;refine (inverse_any IV.out.tb TM.out HEB.out (by have:=HT1.out; omega)).mono ?_;rintro e1 w32 ⟨F9,sv9,S9,T9,es9,j9,rfl,hj9,hpre9,hsl9,htb9,htr9,hk9,hT9,hg9⟩;replace IV:=ι (IV.out.step HPL.out.1 HUK.out hj9 hpre9 hsl9 htb9 htr9 hk9);have hg9x:=hg9;have nTM:=hT9;have nRW:=RW.out.gw hg9;have nC:=C.out.kg hg9.kg;have nRV:=RV.out.kg hg9.kg;have nUD:=RdF.kg UD.out hg9.kg;have nAB0:=AB0.out.kg hg9.kg;have nAB1:=AB1.out.kg hg9.kg;refine ⟨_,rfl,?_⟩
    go_frame;replace TM:=ι nTM;replace RW:=ι nRW;replace C:=ι nC;replace RV:=ι nRV;replace UD:=ι nUD;replace AB0:=ι nAB0;replace AB1:=ι nAB1;replace K:=ι (K.out.trans_or hg9x);clear hg9x nTM nRW nC nRV nUD nAB0 nAB1;obtain ⟨a8,c8,X8,r8,hR8,hk8,ho8⟩:=RW.out.push TM.out.Flt TM.out.Mlt ((j9:Nat):Int) (by rw [List.length_map]; have:=HT1.out; omega) 25;refine Rg.lr 34 (Rg.exec_buildSlice _ _ _ rfl (.int .i64 ((j9:Nat):Int)) rfl (run_build1N w32 _)) ?_;go_frame;refine Rg.lr 35 (Rg.exec_append _ _ _ rfl rfl rfl r8) ?_;go_frame;refine Rg.lr 2 (Rg.exec_assign (v:=.slice a8 ((parts1.map fun k:Nat=>((k:Nat):Int)).length+1) c8) _ rfl rfl) ?_;go_frame;have hF8:∀ z,F9 z→¬ (Value.slice pa1 (parts1.map fun k:Nat=>((k:Nat):Int)).length pc1).ownBlock=some z:=fun z h1 h2=>(RW.out.off z h2).1 h1;have hM8:∀ z,(Value.slice pa1 (parts1.map fun k:Nat=>((k:Nat):Int)).length pc1).ownBlock=some z→¬ tbS tb mb es9 sv9 lv z:=fun z h1=>(RW.out.off z h1).2.1
    have hkf8:KF F9 _ X8:=hk8.weak fun z h1 h2=>hF8 z h2 h1;replace TM:=ι (TM.out.kp hk8 hM8 hF8);replace K:=ι (K.out.put_or hk8 hF8 ho8);replace C:=ι (C.out.kf hkf8);replace RV:=ι (FP.kf RV.out hkf8);replace UD:=ι (RdF.kf UD.out hkf8);replace AB0:=ι (AB0.out.kf hkf8);replace AB1:=ι (AB1.out.kf hkf8)
    have hcast:(parts1.map fun k:Nat=>((k:Nat):Int))++[((j9:Nat):Int)]=(parts1++[j9]).map fun k:Nat=>((k:Nat):Int):=by rw [List.map_append]; rfl
    rw [hcast] at hR8;replace RW:=ι hR8;clear hk8 hF8 hM8 hkf8 hcast ho8 r8 CX HUK HEB;go_upto_region 7 with (fail);refine Rg.wl ?_;refine Rg.lr 36 (exec_bin (R:=.int .i64 (((k+1):Nat):Int)) .add _ _ _ rfl rfl rfl (b_add _ (by omega) (by omega))) ?_;go_frame;refine Rg.lm 26 (.int .i64 (((k+1):Nat):Int)) ?_;go_frame;go_wp2
    go_roundw
    case rel=>exact ⟨k+1,_,_,_,_,_,_,by go_num,HKL.out,IV,TM,K,RW,C,RV,UD,AB0,AB1⟩
    case measure=>simp [intOf]; have:=HKL.out; omega
   case neg =>
    have hke:k=ul:=by omega
    subst hke;have IVF:=ι (show IvR N gs S T es parts.length x U U.length S1 T1 es1 parts1 by rw [hul.out]; exact IV.out);have HYP:=ι (show pvL T1 parts1=y0 by rw [IVF.out.pv,List.take_of_length_le (Nat.le_refl _)]; exact HYV.out.symm);have HPA1:=ι IV.out.pa
    have hpl1:1≤parts1.length:=by have:=IV.out.pl; have:=HPL.out; omega
    obtain ⟨a1,l1,hp1⟩:∃ a l,parts1=a :: l:=by
     cases parts1 with
     | nil=>simp at hpl1
     | cons a l=>exact ⟨a,l,rfl⟩
    subst hp1;obtain ⟨pg,pc,ca,e1,hcell,hglt,hsl,hrd⟩:=RW.out.split
    have hlen:((a1 :: l1).map fun k:Nat=>((k:Nat):Int)).length=l1.length+1:=by simp
    rw [hlen] at e1 K ⊢;simp only [Value.slice.injEq,true_and] at e1;obtain ⟨rfl,rfl⟩:=e1;have RP:=ι hrd;have CP:=ι (CL.mk hcell hglt);have HSL:=ι hsl;obtain ⟨z1,hz1⟩:=HPA1.out a1 (List.mem_cons_self ..);have HZ1:=ι hz1;have HLN:=ι (show T1.length+l1.length<100000 by have:=HT1.out; simp at this; omega)
    have HYZ:=ι (show l1.foldl (fun y k=>Ma.mulN y (T1.getD k [])) z1=y0 by
     rw [← HYP.out];show _=l1.foldl _ (T1.getD a1 [])
     rw [List.getD_eq_getElem?_getD,hz1]; rfl)
    have HNF1:=ι (fnd_tr IV.out.tr HNF.out);clear hcell hglt hsl hrd hz1 hlen RW UD hpl1;go_upto_region 4 with (fail);refine Rg.wl ?_;refine Rg.lr 27 (exec_bin (R:=.bool false) .lss _ _ _ rfl rfl rfl (b_lss _ Rg.dF)) ?_;go_frame;have HCP:=ι ((show Below wr.heap.size wr wr.drew from (Below.refl _ _).drew).cell (p:=⟨pg,0+0,none⟩) CP.out.lt);go_upto_region 8 with (fail);have hV0:Below wr.heap.size wr wr.drew:=(Below.refl _ _).drew;replace TM:=ι (TM.out.up hV0);replace C:=ι (C.out.up hV0);replace RV:=ι (RV.out.up hV0);replace AB0:=ι (AB0.out.up hV0);replace AB1:=ι (AB1.out.up hV0);replace RP:=ι (RP.out.up hV0);replace K:=ι (K.out.up hV0);generalize Fup F1 wr wr.drew=F1 at *;clear hV0;refine Rg.Any.begin (S:=Rg.Both 6 (fun W:World=>W.cell? ⟨pg,0+0,none⟩=some (.int .i64 ((a1:Nat):Int))) (fun _=>True)) mix ?_;generalize wr.drew=w53 at *;have hS:∀ (l:Array Bool) W,(fun W:World=>W.cell? ⟨pg,0+0,none⟩=some (.int .i64 ((a1:Nat):Int))) W→Rg.Both 6 (fun W:World=>W.cell? ⟨pg,0+0,none⟩=some (.int .i64 ((a1:Nat):Int))) (fun _=>True) l W:=fun l W h=>⟨.inr h,trivial⟩
    have hS2:∀ (l:Array Bool) W,l.getD 6 false=true→Rg.Both 6 (fun W:World=>W.cell? ⟨pg,0+0,none⟩=some (.int .i64 ((a1:Nat):Int))) (fun _=>True) l W:=fun l W h=>⟨.inl h,trivial⟩;have hI:(fun W:World=>W.cell? ⟨pg,0+0,none⟩=some (.int .i64 ((a1:Nat):Int))) w53:=HCP.out.trans CP.out.cell;refine Rg.tm 0 6 (.slice (some ⟨pg,0,none⟩) (l1.length+1) (pc+1)) 37 (hS _ _ hI) ?_;go_frame;refine Rg.tg 1 6 ((.slice (some ca) l1.length pc)) 38 rfl rfl (.inl ⟨rfl,fun w _=>exec_slice1I (v:=.slice (some ⟨pg,0,none⟩) (l1.length+1) (pc+1)) _ rfl rfl (HSL.out _)⟩) (hS _ _ hI) ?_;go_frame;refine Rg.tm 2 6 (.slice (some ⟨pg,0,none⟩) (l1.length+1) (pc+1)) 39 (hS _ _ hI) ?_;go_frame;refine Rg.tg 3 6 (.pointer (some ⟨pg,0+0,none⟩)) 40 rfl rfl (Rg.yields_index slInts _ _ rfl rfl pg (0) ((l1.length+1)) (pc+1) (0) rfl rfl (by omega)) (hS _ _ hI) ?_;go_frame
    refine Rg.Any.takeT (i:=4) (t:=6) (v:=.int .i64 ((a1:Nat):Int)) (some 41) rfl rfl (by kernel_rfl) (by kernel_rfl) (by kernel_rfl) (fun _ _ _ h=>h) rfl (by kernel_rfl) rfl (Rg.yields_cell _ _ rfl rfl ⟨pg,0+0,none⟩ rfl (fun W hW=>run_loadInt hW)) (hS _ _ hI) ?_;go_frame;refine Rg.tg 5 6 ((.func (.func 115) #[] #[.pointer (some ⟨tp,0,none⟩)])) 42 rfl rfl (.inl ⟨rfl,fun w _=>exec_makeFunc 115 _ rfl rfl⟩) (hS _ _ hI) ?_;go_frame;refine Rg.Any.one (i:=6) (by kernel_rfl) (Rg.Any.ask (some 43) rfl rfl rfl _ _ (exec_fn3 114 _ _ _ _ rfl rfl rfl rfl (Dhcl2 _ _)) ?_);refine (foldTI_any (y0:=z1) IV.out.tb.sk TM.out C.out (fun k hk=>HPA1.out k (List.mem_cons_of_mem _ hk)) HZ1.out RP.out HLN.out).mono ?_;rintro e1 w54 ⟨F9,sv9,S9,T9,a9,rfl,ha9,hpre9,hsl9,hmk9,hae9,hT9,hg9⟩;rw [HYZ.out] at ha9;have HIR:=ι (fun b=>IVF.out.put HG.out HUL.out HPL.out.2 HGX.out (show Cm.sfP N (Cm.idT N (trE es)) N x=(i0,y0) by rw [hA.out,← hi0.out,← hy0.out]) HIN.out rfl hsl9 hmk9 hpre9 ha9 b)
    have hg9x:=hg9;have nTM:=hT9;have nC:=C.out.kg hg9.kg;have nRV:=RV.out.kg hg9.kg;have nAB0:=AB0.out.kg hg9.kg;have nAB1:=AB1.out.kg hg9.kg;have hI2_k:=trivial;clear hI;refine ⟨_,rfl,(hS2 _ _ rfl),?_⟩;go_frame;clear RP;replace TM:=ι nTM;replace C:=ι nC;replace RV:=ι nRV;replace AB0:=ι nAB0;replace AB1:=ι nAB1;replace K:=ι (K.out.trans_or hg9x);clear hg9x nTM nC nRV nAB0 nAB1;refine Rg.tg 7 6 (.int .i64 ((a9:Nat):Int)) 12 rfl rfl (.inl ⟨rfl,fun w _=>Rg.exec_assign (v:=.int .i64 ((a9:Nat):Int)) _ rfl rfl⟩) (hS2 _ _ rfl) ?_;go_frame;refine Rg.Any.done (by kernel_rfl) ?_ _;clear hS2;clear hS hI2_k;have HES:=ι (show es1.length≤1000 by have:=IV.out.tb.few; have h9:N*N≤16*16:=Nat.mul_le_mul hn2 hn2; omega);clear ha9 hpre9 hsl9 hmk9 hae9;go_upto_region 9 with (fail);refine Rg.wl ?_;refine Rg.lm 44 (.slice (some ⟨rb,ro,none⟩) N rc) ?_;go_frame
    refine Rg.lm 45 (.slice (some ⟨rb,ro,none⟩) N rc) ?_;go_frame;refine Rg.lk 46 (exec_fn1 45 _ _ rfl rfl (Bhcl0 _ _)) ?_;refine (fcInv_f RV.out GY.out hn1 (by omega)).mono ?_;rintro e1 w55 ⟨iv,rfl,hiv,hb⟩;obtain ⟨ib,io,ic,rfl⟩:=hiv.shape' (Cm.gd_inv GY.out) hn1;refine ⟨_,rfl,?_⟩;go_frame;replace TM:=ι (TM.out.up hb);replace C:=ι (C.out.up hb);replace RV:=ι (RV.out.up hb);replace AB0:=ι (AB0.out.up hb);replace AB1:=ι (AB1.out.up hb);replace K:=ι (K.out.up hb);have IV9:=ι hiv;generalize Fup F9 w54 w55=F2 at *;clear hb;refine Rg.lm 47 (.int .i64 ((a9:Nat):Int)) ?_;go_frame;refine Rg.lr 48 (exec_buildEn _ _ _ _ rfl rfl rfl rfl rfl) ?_;go_frame;obtain ⟨hT8,hq8⟩:=TM.out.box RV.out IV9.out i0 q0 a9 113;have hb8:Below w55.heap.size w55 (w55.alloc (.cells #[.slice (some ⟨rb,ro,none⟩) N rc,.slice (some ⟨ib,io,none⟩) N ic,.int .i64 ((a9:Nat):Int),.int .i64 (-1)] 113)):=(Below.refl _ _).alloc (Nat.le_refl _) _
    obtain ⟨eb,heb⟩:∃ b,b=w55.heap.size:=⟨_,rfl⟩;refine Rg.lr 49 (Rg.exec_box _ _ rfl rfl) ?_;go_frame;rw [← heb] at hT8 hq8 ⊢;refine Rg.la 13 (.pointer (some ⟨eb,0,none⟩)) ?_;go_frame;replace K:=ι (K.out.trans_or (TM.out.gw (Rg.Kp.of_below hb8) (fun q hq=>by rw [← heb]; exact hq8 q hq)));replace TM:=ι hT8;replace C:=ι (C.out.kf (KF.of_below hb8));replace AB0:=ι (AB0.out.kf (KF.of_below hb8));replace AB1:=ι (AB1.out.kf (KF.of_below hb8));clear hT8 hq8 hb8 RV IV9 heb;generalize w55.alloc (.cells #[.slice (some ⟨rb,ro,none⟩) N rc,.slice (some ⟨ib,io,none⟩) N ic,.int .i64 ((a9:Nat):Int),.int .i64 (-1)] 113)=W7 at *;have HIRb:=ι (HIR.out eb);rw [hq0.out] at HIRb;clear HIR;obtain ⟨e0,he0⟩:∃ e:En,Hid (⟨eb,i0,q0,y0,a9,-1⟩=e):=⟨_,ι rfl⟩;rw [he0.out] at HIRb TM K;have HP0:=ι (show enP e0=.pointer (some ⟨eb,0,none⟩) by rw [← he0.out]);have HK0:=ι (show Jm.keyV (e0.i,e0.p)=.agg #[.int .i64 ((i0:Nat):Int),.int .i64 ((q0:Nat):Int)] by rw [← he0.out]; rfl)
    have HN0:=ι (show fnd es1 e0.i e0.p=none by rw [← he0.out]; exact HNF1.out);go_upto_region 10 with (fail);have hV0:Below W7.heap.size W7 W7.drew:=(Below.refl _ _).drew;replace TM:=ι (TM.out.up hV0);replace C:=ι (C.out.up hV0);replace AB0:=ι (AB0.out.up hV0);replace AB1:=ι (AB1.out.up hV0);replace K:=ι (K.out.up hV0);generalize Fup F2 W7 W7.drew=F3 at *;clear hV0;refine Rg.Any.begin (S:=Rg.Both 6 (fun W:World=>W.cell? ⟨tp,0,none⟩=some (.pointer (some ⟨tb,0,none⟩))∧W.cell? ⟨tb,3,none⟩=some (.map (some mb))∧W.cell? ⟨ab,0,none⟩=some (.int .i64 ((i0:Nat):Int))∧W.cell? ⟨ab,1,none⟩=some (.int .i64 ((q0:Nat):Int))) (fun _=>True)) mix ?_;generalize W7.drew=w56 at *;have hS:∀ (l:Array Bool) W,(fun W:World=>W.cell? ⟨tp,0,none⟩=some (.pointer (some ⟨tb,0,none⟩))∧W.cell? ⟨tb,3,none⟩=some (.map (some mb))∧W.cell? ⟨ab,0,none⟩=some (.int .i64 ((i0:Nat):Int))∧W.cell? ⟨ab,1,none⟩=some (.int .i64 ((q0:Nat):Int))) W→Rg.Both 6 (fun W:World=>W.cell? ⟨tp,0,none⟩=some (.pointer (some ⟨tb,0,none⟩))∧W.cell? ⟨tb,3,none⟩=some (.map (some mb))∧W.cell? ⟨ab,0,none⟩=some (.int .i64 ((i0:Nat):Int))∧W.cell? ⟨ab,1,none⟩=some (.int .i64 ((q0:Nat):Int))) (fun _=>True) l W:=fun l W h=>⟨.inr h,trivial⟩
    have hS2:∀ (l:Array Bool) W,l.getD 6 false=true→Rg.Both 6 (fun W:World=>W.cell? ⟨tp,0,none⟩=some (.pointer (some ⟨tb,0,none⟩))∧W.cell? ⟨tb,3,none⟩=some (.map (some mb))∧W.cell? ⟨ab,0,none⟩=some (.int .i64 ((i0:Nat):Int))∧W.cell? ⟨ab,1,none⟩=some (.int .i64 ((q0:Nat):Int))) (fun _=>True) l W:=fun l W h=>⟨.inl h,trivial⟩;have hI:(fun W:World=>W.cell? ⟨tp,0,none⟩=some (.pointer (some ⟨tb,0,none⟩))∧W.cell? ⟨tb,3,none⟩=some (.map (some mb))∧W.cell? ⟨ab,0,none⟩=some (.int .i64 ((i0:Nat):Int))∧W.cell? ⟨ab,1,none⟩=some (.int .i64 ((q0:Nat):Int))) w56:=⟨C.out.cell,TM.out.h3.c,AB0.out.cell,AB1.out.cell⟩;refine Rg.Any.takeT (i:=0) (t:=6) (v:=.pointer (some ⟨tb,0,none⟩)) (some 50) rfl rfl (by kernel_rfl) (by kernel_rfl) (by kernel_rfl) (fun _ _ _ h=>h) rfl (by kernel_rfl) rfl (Rg.yields_cell _ _ rfl rfl ⟨tp,0,none⟩ rfl (fun W hW=>Rg.run_loadPtr _ _ Tryz.underlying98 hW.1)) (hS _ _ hI) ?_;go_frame
    refine Rg.tg 1 6 (.pointer (some ⟨tb,0,none⟩)) 51 rfl rfl (.inl ⟨rfl,fun w _=>exec_nil _ rfl rfl⟩) (hS _ _ hI) ?_;go_frame;refine Rg.tg 2 6 (.pointer (some ⟨tb,3,none⟩)) 52 rfl rfl (.inl ⟨rfl,fun w _=>exec_field _ rfl rfl (tblF2 _ _)⟩) (hS _ _ hI) ?_;go_frame;refine Rg.Any.takeT (i:=3) (t:=6) (v:=(.map (some mb))) (some 53) rfl rfl (by kernel_rfl) (by kernel_rfl) (by kernel_rfl) (fun _ _ _ h=>h) rfl (by kernel_rfl) rfl (Rg.yields_cell _ _ rfl rfl ⟨tb,3,none⟩ rfl (fun W hW=>run_loadME hW.2.1)) (hS _ _ hI) ?_;go_frame;refine Rg.Any.takeT (i:=4) (t:=6) (v:=(.agg #[.int .i64 ((i0:Nat):Int),.int .i64 ((q0:Nat):Int)])) (some 54) rfl rfl (by kernel_rfl) (by kernel_rfl) (by kernel_rfl) (fun _ _ _ h=>h) rfl (by kernel_rfl) rfl (Rg.yields_cell _ _ rfl rfl ⟨ab,0,none⟩ rfl (fun W hW=>run_loadP2 hW.2.2.1 hW.2.2.2)) (hS _ _ hI) ?_;go_frame;refine Rg.tm 5 6 (.pointer (some ⟨eb,0,none⟩)) 55 (hS _ _ hI) ?_;go_frame
    obtain ⟨X8,hr8,hT8,hk8⟩:=TM.out.put HN0.out;rw [HK0.out,HP0.out] at hr8;refine Rg.Any.one (i:=6) (by kernel_rfl) (Rg.Any.runSkip none rfl rfl rfl (Rg.exec_mapUpdate _ _ _ _ rfl _ _ _ rfl rfl rfl hr8) (hS2 _ _ rfl) ?_);go_frame;refine Rg.Any.done (by kernel_rfl) ?_ _;clear hS2;clear hS hI;have hkf8:=hk8.weak (M':=fun k=>¬ _) fun k h1 h2=>TM.out.nF k h2 h1;replace K:=ι (K.out.trans_or (TM.out.gw hk8 (fun _=>.inl)));replace TM:=ι hT8;replace C:=ι (C.out.kf hkf8);clear hT8 hk8 hkf8 hr8 AB0 AB1;go_upto_region 11 with (fail);have hV0:Below X8.heap.size X8 X8.drew:=(Below.refl _ _).drew;replace TM:=ι (TM.out.up hV0);replace C:=ι (C.out.up hV0);replace K:=ι (K.out.up hV0);generalize Fup F3 X8 X8.drew=F4 at *;clear hV0;refine Rg.Any.begin (S:=Rg.Both 8 (fun W:World=>W.cell? ⟨tp,0,none⟩=some (.pointer (some ⟨tb,0,none⟩))∧W.cell? ⟨tb,4,none⟩=some lv) (fun _=>True)) mix ?_
    generalize X8.drew=w67 at *;have hS:∀ (l:Array Bool) W,(fun W:World=>W.cell? ⟨tp,0,none⟩=some (.pointer (some ⟨tb,0,none⟩))∧W.cell? ⟨tb,4,none⟩=some lv) W→Rg.Both 8 (fun W:World=>W.cell? ⟨tp,0,none⟩=some (.pointer (some ⟨tb,0,none⟩))∧W.cell? ⟨tb,4,none⟩=some lv) (fun _=>True) l W:=fun l W h=>⟨.inr h,trivial⟩;have hS2:∀ (l:Array Bool) W,l.getD 8 false=true→Rg.Both 8 (fun W:World=>W.cell? ⟨tp,0,none⟩=some (.pointer (some ⟨tb,0,none⟩))∧W.cell? ⟨tb,4,none⟩=some lv) (fun _=>True) l W:=fun l W h=>⟨.inl h,trivial⟩;have hI:(fun W:World=>W.cell? ⟨tp,0,none⟩=some (.pointer (some ⟨tb,0,none⟩))∧W.cell? ⟨tb,4,none⟩=some lv) w67:=⟨C.out.cell,TM.out.h4.c⟩;refine Rg.Any.takeT (i:=0) (t:=8) (v:=.pointer (some ⟨tb,0,none⟩)) (some 56) rfl rfl (by kernel_rfl) (by kernel_rfl) (by kernel_rfl) (fun _ _ _ h=>h) rfl (by kernel_rfl) rfl (Rg.yields_cell _ _ rfl rfl ⟨tp,0,none⟩ rfl (fun W hW=>Rg.run_loadPtr _ _ Tryz.underlying98 hW.1)) (hS _ _ hI) ?_;go_frame
    refine Rg.Any.takeT (i:=1) (t:=8) (v:=.pointer (some ⟨tb,0,none⟩)) (some 57) rfl rfl (by kernel_rfl) (by kernel_rfl) (by kernel_rfl) (fun _ _ _ h=>h) rfl (by kernel_rfl) rfl (Rg.yields_cell _ _ rfl rfl ⟨tp,0,none⟩ rfl (fun W hW=>Rg.run_loadPtr _ _ Tryz.underlying98 hW.1)) (hS _ _ hI) ?_;go_frame;refine Rg.tg 2 8 (.pointer (some ⟨tb,0,none⟩)) 58 rfl rfl (.inl ⟨rfl,fun w _=>exec_nil _ rfl rfl⟩) (hS _ _ hI) ?_;go_frame;refine Rg.tg 3 8 (.pointer (some ⟨tb,4,none⟩)) 59 rfl rfl (.inl ⟨rfl,fun w _=>exec_field _ rfl rfl (tblF3 _ _)⟩) (hS _ _ hI) ?_;go_frame;refine Rg.Any.takeT (i:=4) (t:=8) (v:=lv) (some 60) rfl rfl (by kernel_rfl) (by kernel_rfl) (by kernel_rfl) (fun _ _ _ h=>h) rfl (by kernel_rfl) rfl (Rg.yields_cell _ _ rfl rfl ⟨tb,4,none⟩ rfl (fun W hW=>Rg.run_loadSl _ _ Tryz.underlying102 hW.2)) (hS _ _ hI) ?_;go_frame;refine Rg.tm 5 8 (.pointer (some ⟨eb,0,none⟩)) 61 (hS _ _ hI) ?_;go_frame
    obtain ⟨a7,c7,X7,r7,hc7,hk7,hT7,hkp7,hst7⟩:=TM.out.list e0 (by have:=HES.out; omega) 102;rw [HP0.out] at r7;have hba:Below w67.heap.size w67 (w67.alloc (.cells #[.pointer (some ⟨eb,0,none⟩)] 110)):=(Below.refl _ _).alloc (Nat.le_refl _) _;have hq7:lv.ownBlock≠some tp:=fun e=>TM.out.nF tp C.out.inF (.inr (.inr (.inr (.inl e))));have hI3_m:=(show (fun W:World=>W.cell? ⟨tp,0,none⟩=some (.pointer (some ⟨tb,0,none⟩))∧W.cell? ⟨tb,4,none⟩=some lv) (w67.alloc (.cells #[.pointer (some ⟨eb,0,none⟩)] 110)) from ⟨(hba.cell (p:=⟨tp,0,none⟩) C.out.lt).trans C.out.cell,(hba.cell (p:=⟨tb,4,none⟩) TM.out.h4.lt).trans TM.out.h4.c⟩);refine Rg.Any.one (i:=6) (by kernel_rfl) (Rg.Any.run (some 62) rfl rfl rfl (Rg.exec_buildSlice _ _ _ rfl (.pointer (some ⟨eb,0,none⟩)) rfl (run_build1E w67 _)) (hS _ _ hI3_m) ?_);go_frame;have hI4_m:=(show (fun W:World=>W.cell? ⟨tp,0,none⟩=some (.pointer (some ⟨tb,0,none⟩))∧W.cell? ⟨tb,4,none⟩=some lv) X7 from ⟨(World.cell?_of_block (a:=⟨tp,0,none⟩) (hk7.block tp C.out.lt hq7)).trans C.out.cell,hc7.c⟩)
    refine Rg.Any.one (i:=7) (by kernel_rfl) (Rg.Any.run (some 63) rfl rfl rfl (Rg.exec_append _ _ _ rfl rfl rfl r7) (hS _ _ hI4_m) ?_);go_frame;refine Rg.Any.one (i:=8) (by kernel_rfl) (Rg.Any.run (some 64) rfl rfl rfl (exec_nil _ rfl rfl) (hS2 _ _ rfl) ?_);go_frame;refine Rg.tg 9 8 (.pointer (some ⟨tb,4,none⟩)) 65 rfl rfl (.inl ⟨rfl,fun w _=>exec_field _ rfl rfl (tblF3 _ _)⟩) (hS2 _ _ rfl) ?_;go_frame;refine Rg.Any.one (i:=10) (by kernel_rfl) (Rg.Any.runSkip none rfl rfl rfl (Rg.exec_store _ _ _ rfl _ rfl _ rfl (Rg.run_storeSl _ infoEntsV hc7.c hc7.f)) (hS2 _ _ rfl) ?_);go_frame;refine Rg.Any.done (by kernel_rfl) ?_ _;clear hS2;clear hS hI4_m;replace K:=ι (K.out.trans_or (TM.out.gw hkp7 hst7));replace TM:=ι hT7;clear hT7 hkp7 hst7 hk7 hc7 r7;generalize X7.setCell ⟨tb,4,none⟩ (.slice a7 (es1.length+1) c7)=W5 at *;go_wp2
    first
    | go_end0
    | refine bodyPost_ret (results_none rfl _ _ _) rfl ?_
    have h9:=K.out.less (M2:=tbS tb mb (es1++[e0]) sv9 (Value.slice a7 (es1.length+1) c7)) fun k=>.inl;rw [List.length_map] at h9;exact ⟨_,_,_,_,_,_,rfl,HIRb.out,TM.out,h9⟩
end Go.Proofs.YtdnmmibchbceeaaGreat

namespace Go.Proofs.Rg
open Go Go.RowKit
variable {P:Program} {md:Region.Mode} {ops:Array Oper} {Q:Exit→Act→World→Prop}
def Tw (t:Nat) (T:World→Prop) (u:Nat) (U:World→Prop) (l:Array Bool) (w:World):Prop:=Till t T l w∧Till u U l w
theorem Tw.set {t u i:Nat} {T U:World→Prop} (hti:t≠i) (hui:u≠i) (l:Array Bool) (w:World):Tw t T u U (l.setIfInBounds i true) w↔Tw t T u U l w:=by
 unfold Tw; rw [Till.set hti,Till.set hui]
theorem Any.takeA {i t u:Nat} {oi:Oper} {v:Value} {T U:World→Prop} {n:Nat} {l:Array Bool} {a:Act} {w:World} (d:Option Tmp) (hi:ops[i]?=some oi) (hd:oi.dst=d)
  (hs:Region.noSelect ops=true) (hf:Region.free md ops l i=true) (hr:(Region.ready md ops l).contains i=true)
  (hQ:∀ c a w,Q (.panic c) (a.put d v) w→Q (.panic c) a w) (hti:(t == i)=false) (hui:(u == i)=false) (hw:Region.waitsFor md ops t i=true) (hl:l.getD t false=false)
  (hy:YieldsIf P ops T oi v a) (hS:Tw t T u U l w)
  (h:Any P md ops Q (Tw t T u U) n (l.setIfInBounds i true) (a.put d v) w):Any P md ops Q (Tw t T u U) (n+1) l a w:=by
 subst hd;obtain ⟨ot,ht,hw⟩:=Region.waitsFor_spec hw
 have hti':t≠i:=by simpa using hti
 have hui':u≠i:=by simpa using hui
 refine Any.firstG hi (Region.noSelect_spec hs) hQ hti' ht hw (Tw.set hti' hui') (fun l w hl hh=>?_) n l a w hl (Region.free_spec hi hf) (by simpa using hr) hy hS h
 rcases hh.1 with h1 | h1
 ·rw [hl] at h1; cases h1
 ·exact h1
theorem Any.takeB {i t u:Nat} {oi:Oper} {v:Value} {T U:World→Prop} {n:Nat} {l:Array Bool} {a:Act} {w:World} (d:Option Tmp) (hi:ops[i]?=some oi) (hd:oi.dst=d)
  (hs:Region.noSelect ops=true) (hf:Region.free md ops l i=true) (hr:(Region.ready md ops l).contains i=true)
  (hQ:∀ c a w,Q (.panic c) (a.put d v) w→Q (.panic c) a w) (hti:(t == i)=false) (hui:(u == i)=false) (hw:Region.waitsFor md ops u i=true) (hl:l.getD u false=false)
  (hy:YieldsIf P ops U oi v a) (hS:Tw t T u U l w)
  (h:Any P md ops Q (Tw t T u U) n (l.setIfInBounds i true) (a.put d v) w):Any P md ops Q (Tw t T u U) (n+1) l a w:=by
 subst hd;obtain ⟨ou,ht,hw⟩:=Region.waitsFor_spec hw
 have hti':t≠i:=by simpa using hti
 have hui':u≠i:=by simpa using hui
 refine Any.firstG hi (Region.noSelect_spec hs) hQ hui' ht hw (Tw.set hti' hui') (fun l w hl hh=>?_) n l a w hl (Region.free_spec hi hf) (by simpa using hr) hy hS h
 rcases hh.2 with h1 | h1
 ·rw [hl] at h1; cases h1
 ·exact h1
theorem Any.takeP {i t u:Nat} {oi:Oper} {v:Value} {T U:World→Prop} {n:Nat} {l:Array Bool} {a:Act} {w:World} (d:Option Tmp) (hi:ops[i]?=some oi) (hd:oi.dst=d)
  (hs:Region.noSelect ops=true) (hf:Region.free md ops l i=true) (hr:(Region.ready md ops l).contains i=true)
  (hQ:∀ c a w,Q (.panic c) (a.put d v) w→Q (.panic c) a w) (hti:(t == i)=false) (hui:(u == i)=false)
  (hy:YieldsIf P ops (fun _=>True) oi v a) (hS:Tw t T u U l w)
  (h:Any P md ops Q (Tw t T u U) n (l.setIfInBounds i true) (a.put d v) w):Any P md ops Q (Tw t T u U) (n+1) l a w:=by
 subst hd;exact Any.firstH hi (Region.noSelect_spec hs) hQ (Tw.set (by simpa using hti) (by simpa using hui)) (fun l w hh=>trivial) n l a w (Region.free_spec hi hf) (by simpa using hr) hy hS h
end Go.Proofs.Rg
