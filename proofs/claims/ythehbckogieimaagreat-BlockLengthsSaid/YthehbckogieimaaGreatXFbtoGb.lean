/- Lemmas and contracts on the way to the statement; no condition of their own beyond those written. -/
import Derived.Test.YthehbckogieimaaGreatXVztoEg
import Derived.RangeFuncWrites
import Derived.RangeFuncNested
import Derived.RangeFuncBox
import Derived.RangeFuncLeaves
import Derived.Shelf.Abstract
import Derived.OwnWalkIn
import Derived.TacticsInMore
import Derived.LoopNIn
import Derived.LoopIn
import Derived.Maps.AppendAt
import Derived.Sort.CutIn
import Derived.Deep.CutRange
import Derived.Deep.CutBlock
import Derived.IntWalk
import Derived.Great.BuildSlice
import Derived.ArgAppend
import Derived.Laws.CopyOwn
import Derived.StillTailTactics
import Derived.Deep.MidRow
import Derived.WalkSpells
import Derived.WalkLawsBesides
import Derived.OwnWalk
import Derived.OrdersHeld
import Derived.Deep.OwnRows
import Derived.WalkKit
import Derived.Lib.Hide
import Derived.Laws.OwnMore
import Derived.Test.YthehbckogieimaaGreatProg
import Derived.Outline
import Derived.Deep.DeepFit
import Derived.BigQuiet
import Derived.Deep.QuietTactic
import Derived.Sort.OwnSortedInts
import Derived.WideMake
import Derived.MapKept
import Derived.ChangeMaps5
import Derived.Shelf.Sort.Plain
import Derived.Lib.ConvBytes
import Derived.ChangeKeysEq
import Derived.Laws.Cells
import Derived.Laws.Rows
import Derived.Laws.Tables
import Derived.Deep.WholeRow
import Derived.OrdersIn
import Derived.TacticsIn
import Derived.Deep.LoopGhost
import Derived.Lib.SlicesSearch
import Derived.Stop.BytesEq
import Derived.Shelf.SlSortCmp.Whole1
import Derived.Ground.SlsfProg
set_option linter.unusedVariables false
set_option linter.unusedSimpArgs false
set_option maxRecDepth 100000
set_option maxHeartbeats 8000000
namespace Go.Proofs.YthehbckogieimaaGreat
open Go.RowKit
open Go.Proofs
open Go.Proofs.Ob
attribute [local irreducible] Go.Calls Go.wpList
structure RowJ (B:Nat) (F M:Nat→Prop) (W:World) (v:Value) (l:List (List Int)):Prop where
 size:B≤W.heap.size
 own:∃ us,W.ownsRow B 36 1 v l.length us∧Rg.FElts F W us l
 off:∀ k,v.ownBlock=some k→¬ F k∧¬ M k
theorem RowJ.lt {B:Nat} {F M:Nat→Prop} {W:World} {v:Value} {l:List (List Int)} (h:RowJ B F M W v l):∀ k,v.ownBlock=some k→B≤k∧k<W.heap.size:=fun k e=>by
 obtain ⟨us,h1,h2⟩:=h.own;exact h1.lt k e
theorem RowJ.shape {B:Nat} {F M:Nat→Prop} {W:World} {v:Value} {l:List (List Int)} (h:RowJ B F M W v l):∃ a c,v=.slice a l.length c:=by
 obtain ⟨us,h1,h2⟩:=h.own;exact Rg.row_shape h1
theorem RowJ.nil (B:Nat) (F M:Nat→Prop) (W:World) (hB:B≤W.heap.size):RowJ B F M W (.slice none 0 0) [] :=
 ⟨hB,⟨[],World.ownsRow_nil _ _ _ _,Rg.FElts.nil _ _⟩,fun k e=>by simp [Value.ownBlock] at e⟩
theorem RowJ.rows {B:Nat} {F M:Nat→Prop} {W:World} {v:Value} {l:List (List Int)} (h:RowJ B F M W v l) (hl:l.length≤1000000000):Rg.Rows W v l:=by
 obtain ⟨us,h1,h2⟩:=h.own;exact Rg.Rows.of_row h1 hl h2.1 (fun i a b=>(h2.2 i a b).ints)
theorem RowJ.kp {B:Nat} {F M N:Nat→Prop} {W W':World} {v:Value} {l:List (List Int)} (h:RowJ B F M W v l) (hk:Rg.Kp N W W') (hF:∀ k,F k→¬ N k) (hN:∀ k,v.ownBlock=some k→¬ N k):RowJ B F M W' v l:=by
 obtain ⟨us,h1,h2⟩:=h.own;exact ⟨Nat.le_trans h.size hk.size,⟨us,rowKp h1 hk (fun k hn e=>hN k e hn),h2.kp hk hF⟩,h.off⟩
theorem RowJ.upk {B:Nat} {F M N:Nat→Prop} {W W':World} {v:Value} {l:List (List Int)} (h:RowJ B F M W v l) (hk:Rg.Kp N W W') (hF:∀ k,F k→¬ N k) (hN:∀ k,N k→M k):RowJ B (Fup F W W') M W' v l:=by
 obtain ⟨us,h1,h2⟩:=h.own;refine ⟨Nat.le_trans h.size hk.size,⟨us,rowKp h1 hk (fun k hn e=>(h.off k e).2 (hN k hn)),(h2.kp hk hF).mono fun k=>.inl⟩,fun k e=>⟨fun g=>?_,(h.off k e).2⟩⟩;have:=(h.lt k e).2
 rcases g with g | g
 ·exact (h.off k e).1 g
 ·omega
theorem RowJ.push {B:Nat} {F M:Nat→Prop} {W:World} {v:Value} {l:List (List Int)} (h:RowJ B F M W v l) {u:Value} {x:List Int} (hu:Rg.FI F W u x) (hs:∃ a m c,u=.slice a m c) (hF:∀ k,F k→k<W.heap.size) (hM:∀ k,M k→k<W.heap.size) (hn:l.length<1000000) (ty:TypeId) :
  ∃ a c X,(Builtin.append_ #[27,27] ty #[v,.slice (some ⟨W.heap.size,0,none⟩) 1 1]).run Tryz.prog (W.alloc (.cells #[u] 36))=.ok (.slice a (l.length+1) c) X∧RowJ B F M X (.slice a (l.length+1) c) (l++[x])∧Rg.Kp (fun k=>v.ownBlock=some k) W X:=by
 obtain ⟨us,h1,h2⟩:=h.own;obtain ⟨a0,m0,c0,rfl⟩:=hs;have hb:Below W.heap.size W (W.alloc (.cells #[.slice a0 m0 c0] 36)):=(Below.refl _ _).alloc (Nat.le_refl _) _;obtain ⟨v',X,r1,r2,r3,r4,a,c,rfl⟩:=app_run (P:=Tryz.prog) slIntss ty (Rg.row_below h1 hb) (Nat.le_trans h.size hb.size) W.heap.size 1 (u:=.slice a0 m0 c0) (by rw [Rg.cellNew]; rfl) rfl hn;have hk:Rg.Kp (fun k=>v.ownBlock=some k) W X:=Rg.Kp.trans (M:=fun k=>v.ownBlock=some k) ((Rg.Kp.of_below hb).weak fun _=>False.elim) (Rg.Kp.of_grown r3 fun _ e=>e) (fun _ _ e=>e);have hg:∀ k,F k→¬ v.ownBlock=some k:=fun k g e=>(h.off k e).1 g;refine ⟨a,c,X,r1,⟨Nat.le_trans h.size hk.size,⟨us++[.slice a0 m0 c0],by rw [List.length_append]; exact r2,FElts.snoc (h2.kp hk hg) (Rg.FI.kp hu hk hg)⟩,fun k e=>?_⟩,hk⟩
 rcases r4 with r4 | r4
 ·exact h.off k (by rw [← r4]; exact e)
 ·rw [r4] at e
  injection e with e
  have e2:(W.alloc (.cells #[.slice a0 m0 c0] 36)).heap.size=W.heap.size+1:=by simp
  exact ⟨fun g=>by have:=hF _ g; omega,fun g=>by have:=hM _ g; omega⟩
theorem RowJ.withM {B:Nat} {F M N:Nat→Prop} {W:World} {v:Value} {l:List (List Int)} (h:RowJ B F M W v l) (hN:∀ k,v.ownBlock=some k→¬ N k):RowJ B F N W v l:=⟨h.size,h.own,fun k e=>⟨(h.off k e).1,hN k e⟩⟩
theorem RowJ.at {B:Nat} {F M:Nat→Prop} {W:World} {v:Value} {l:List (List Int)} (h:RowJ B F M W v l) {i:Nat} (hi:i<l.length):∃ b c u,v=.slice (some ⟨b,0,none⟩) l.length c∧l.length≤c∧b<W.heap.size∧W.cell? ⟨b,i,none⟩=some u∧Rg.FI F W u l[i]:=by
 obtain ⟨us,h1,h2⟩:=h.own;obtain ⟨-,a,c,rfl,h3,h4,h5⟩:=Rg.own_elts h1 h2;obtain ⟨g,rfl,hg,hx⟩:=h5 (by omega);obtain ⟨u,hu1,hu2⟩:=hx i hi;exact ⟨g,c,u,rfl,h3,hg,hu1,hu2⟩
theorem RowJ.one {B:Nat} {F M:Nat→Prop} {W:World} {u:Value} {x:List Int} (hB:B≤W.heap.size) (hu:Rg.FI F W u x) (hs:∃ a m c,u=.slice a m c) (hF:∀ k,F k→k<W.heap.size) (hM:∀ k,M k→k<W.heap.size) :
  RowJ B F M (W.alloc (.cells #[u] 36)) (.slice (some ⟨W.heap.size,0,none⟩) 1 1) [x]:=by
 have hb:Below W.heap.size W (W.alloc (.cells #[u] 36)):=(Below.refl _ _).alloc (Nat.le_refl _) _;refine ⟨Nat.le_trans hB hb.size,⟨[u],⟨rfl,.inr ⟨W.heap.size,1,#[u],rfl,hB,by show (W.heap.push _)[W.heap.size]?=_; simp,Nat.le_refl _,by decide,rfl,rfl⟩⟩,?_⟩,fun k e=>?_⟩
 ·exact Rg.FElts.one (Rg.FI.kp hu (Rg.Kp.of_below hb) (fun _ _=>id))
 ·simp only [Value.ownBlock,Option.some.injEq] at e
  subst e;exact ⟨fun h=>Nat.lt_irrefl _ (hF _ h),fun h=>Nat.lt_irrefl _ (hM _ h)⟩
end Go.Proofs.YthehbckogieimaaGreat

namespace Go.Proofs.Km
open Go Go.RowKit
open Go.ChangeMaps
structure KT (P:Program) (t k e v:TypeId) (n:Nat) (z:Value):Prop where
 ht:P.underlying t=some (.map k v)
 hk:P.underlying k=some (.array n e)
 he:P.underlying e=some (.int .u8)
 hs:∀ w,(sizeOf e).run P w=.ok 1 w
 hz:∀ w,(zeroValue v).run P w=.ok z w
def keyV (l:List UInt8):Value:=.agg (l.map Go.Extern.Stop.cell).toArray
def KMap (w:World) (r:Nat) (m:List (List UInt8 × Value)):Prop :=
 ∃ es clock,w.heap[r]?=some (.map es clock)∧es.toList.map (fun e=>(e.key,e.val))=m.map (fun x=>(keyV x.1,x.2))
theorem KMap.lt {w:World} {r:Nat} {m:List (List UInt8 × Value)} (h:KMap w r m):r<w.heap.size:=by
 obtain ⟨es,c,h1,_⟩:=h; exact (Array.getElem?_eq_some_iff.1 h1).1
theorem KMap.of_block {w w':World} {r:Nat} {m:List (List UInt8 × Value)} (h:KMap w r m) (e:w'.heap[r]?=w.heap[r]?):KMap w' r m:=by
 obtain ⟨es,c,h1,h2⟩:=h; exact ⟨es,c,e.trans h1,h2⟩
theorem KMap.below {w w':World} {r:Nat} {m:List (List UInt8 × Value)} (h:KMap w r m) (hb:Below w.heap.size w w'):KMap w' r m:=h.of_block (hb.block r h.lt)
theorem KMap.grown {w w':World} {r:Nat} {m:List (List UInt8 × Value)} {k:Option Nat} (h:KMap w r m) (hg:w.grownBy w' k) (hne:some r≠k):KMap w' r m:=h.of_block (hg.block r h.lt hne)
theorem KMap.new (w:World):KMap (w.alloc (.map #[] 0)) w.heap.size []:=⟨#[],0,by unfold World.alloc; simp,rfl⟩
def look (m:List (List UInt8 × Value)) (k:List UInt8):Option Value:=(m.find? (fun x=>k == x.1)).map (·.2)
section
variable {P:Program} {t k e v:TypeId} {n:Nat} {z:Value}
theorem check_items (T:KT P t k e v n z) (em:Bool) (xs:List UInt8) (hx:xs.length=n) (w:World):(Instr.checkKey em 10000 k (keyV xs)).run P w=.ok () w:=by
 rw [show (10000:Nat)=9999+1 from rfl,keyV,Instr.checkKey];simp only [Sem.run_bind,run_underlying T.hk,Result.andThen_ok,Std.Legacy.Range.forIn_eq_forIn_range',Std.Legacy.Range.size,Nat.sub_zero,Nat.add_sub_cancel,Nat.div_one]
 have hl:∀ i∈List.range' 0 n 1,i<n:=fun i hi=>by simpa using (List.mem_range'_1.1 hi).2
 generalize List.range' 0 n 1=l at hl ⊢
 induction l with
 | nil=>simp
 | cons i l ih =>
  have hi:i<n:=hl i (by simp)
  have px:(part e (xs.map Go.Extern.Stop.cell).toArray (i*1)).run P w=.ok (Go.Extern.Stop.cell (xs.getD i 0)) w:=by
   simp [part,isAgg,run_underlying T.he,List.getD,List.getElem?_eq_getElem (show i<xs.length by omega)]
  have pc:(Instr.checkKey em 9999 e (Go.Extern.Stop.cell (xs.getD i 0))).run P w=.ok () w:=by
   rw [show (9999:Nat)=9998+1 from rfl,Instr.checkKey];simp [Sem.run_bind,run_underlying T.he,Go.Extern.Stop.cell]
  simp only [List.forIn_cons,Sem.run_bind,T.hs,px,pc,Result.andThen_ok,Sem.run_pure];exact ih fun j hj=>hl j (by simp [hj])
theorem ask_items (T:KT P t k e v n z) (w:World) (kb:List UInt8) (hk:kb.length=n):∀ (es:List MapEntry) (m:List (List UInt8 × Value)) (i:Nat),
  es.map (fun e=>(e.key,e.val))=m.map (fun x=>(keyV x.1,x.2))→(∀ x∈m,x.1.length=n) →
  ∃ r,(Instr.findAsking k (keyV kb) es i).run P w=.ok r w∧r.map (·.2)=look m kb
 | [],m,i,h,_=>by
  obtain rfl:m=[]:=by cases m; rfl; simp at h
  exact ⟨none,by simp [Instr.findAsking],rfl⟩
 | e0 :: es,m,i,h,hm=>by
  cases m with
  | nil=>simp at h
  | cons x m =>
   simp only [List.map_cons,List.cons.injEq,Prod.mk.injEq] at h;obtain ⟨⟨h1,h2⟩,h3⟩:=h;have hxl:=hm x (by simp)
   have pe:(Op.equal k (keyV kb) e0.key).run P w=.ok (kb == x.1) w:=by
    rw [h1,Op.equal,Op.maxDepth,keyV,keyV];exact run_equalIn_bytes w 9998 k e n T.hk T.he T.hs kb x.1 hk hxl
   obtain ⟨r,hr,hr2⟩:=ask_items T w kb hk es m (i+1) h3 (fun y hy=>hm y (by simp [hy]));rw [Instr.findAsking];simp only [Sem.run_bind,pe,Result.andThen_ok]
   cases hq:(kb == x.1)
   ·refine ⟨r,by simpa using hr,?_⟩
    rw [hr2]; simp [look,hq]
   ·refine ⟨some (i,e0.val),by simp,?_⟩
    simp [look,hq,h2]
theorem find_items (T:KT P t k e v n z) (w:World) (kb:List UInt8) (hk:kb.length=n) (es:List MapEntry) (m:List (List UInt8 × Value))
  (h:es.map (fun e=>(e.key,e.val))=m.map (fun x=>(keyV x.1,x.2))) (hm:∀ x∈m,x.1.length=n) :
  ∃ r,(Instr.findKey k (keyV kb) es).run P w=.ok r w∧r.map (·.2)=look m kb:=by
 unfold Instr.findKey;simp only [Sem.run_bind,run_underlying T.hk,Result.andThen_ok]
 cases es with
 | nil =>
  obtain rfl:m=[]:=by cases m; rfl; simp at h
  exact ⟨none,by simp [Instr.findNow],rfl⟩
 | cons e0 es =>
  have:Instr.findNow (.array n e) (keyV kb) (e0 :: es) 0=none:=by simp [Instr.findNow,Instr.sameNow]
  rw [this];exact ask_items T w kb hk _ m 0 h hm
theorem lookup_no (T:KT P t k e v n z) {w:World} {r:Nat} {m:List (List UInt8 × Value)} (h:KMap w r m) (hm:∀ x∈m,x.1.length=n) (kb:List UInt8) (hk:kb.length=n) :
  (Instr.lookup t (.map (some r)) (keyV kb) false).run P w=.ok ((look m kb).getD z) w:=by
 obtain ⟨es,c,h1,h2⟩:=h;obtain ⟨q,hq,hq2⟩:=find_items T w kb hk es.toList m h2 hm
 cases q with
 | none =>
  have:look m kb=none:=by rw [← hq2]; rfl
  simp [Instr.lookup,run_underlying T.ht,MapKept.run_getObj_map h1,check_items T _ kb hk,hq,T.hz,Result.andThen,this]
 | some x =>
  have:look m kb=some x.2:=by rw [← hq2]; rfl
  simp [Instr.lookup,run_underlying T.ht,MapKept.run_getObj_map h1,check_items T _ kb hk,hq,Result.andThen,this]
theorem update_new (T:KT P t k e v n z) {w:World} {r:Nat} {m:List (List UInt8 × Value)} (h:KMap w r m) (hm:∀ x∈m,x.1.length=n) (kb:List UInt8) (hk:kb.length=n) (hno:look m kb=none) (val:Value) :
  ∃ w',(Instr.mapUpdate t (.map (some r)) (keyV kb) val).run P w=.ok () w'∧KMap w' r (m++[(kb,val)])∧w.grownBy w' (some r):=by
 obtain ⟨es,c,h1,h2⟩:=h;obtain ⟨q,hq,hq2⟩:=find_items T w kb hk es.toList m h2 hm;rw [hno] at hq2
 have:q=none:=by cases q; rfl; simp at hq2
 subst this;refine ⟨setBlock w r (.map (es.push ⟨keyV kb,val,c⟩) (c+1)),?_,⟨_,_,heap_setBlock_same h1 _,?_⟩,⟨rfl,rfl,rfl,by simp [setBlock],fun i _ hi=>heap_setBlock_other h1 _ (fun e=>hi (by rw [e]))⟩⟩
 ·simp [Instr.mapUpdate,run_underlying T.ht,MapKept.run_getObj_map h1,check_items T _ kb hk,hq,MapKept.run_setObj_map _ h1,Result.andThen,setBlock]
 ·simp [h2]
end
end Go.Proofs.Km

namespace Go.Proofs.YthehbckogieimaaGreat
open Go.RowKit
open Go.Proofs
attribute [local irreducible] Go.Calls
def keyF (p:List Nat) (i:Nat):Value:=.int .u8 ((p.getD i 0:Nat):Int)
def keyC (p:List Nat):Array Value:=(Array.range 64).map (keyF p)
theorem size_keyC (p:List Nat):(keyC p).size=64:=by simp [keyC]
theorem get_keyC (p:List Nat) (i:Nat) (h:i<64):(keyC p)[i]?=some (keyF p i):=by simp [keyC,h]
theorem one_keyC (p:List Nat):(keyC p).all (·.oneCell')=true:=by
 refine Array.all_eq_true_iff_forall_mem.2 (fun v hv=>?_);obtain ⟨i,_,rfl⟩:=Array.mem_map.1 hv;rfl
theorem infoKey:(Tryz.prog.info? 105).map (·.size)=some 64:=by kernel_rfl
theorem keyRow {w:World} {b:Nat} {p:List Nat} {f:Nat→Value} (h:w.rowIs b 105 64 f) (hf:∀ i,i<64→f i=keyF p i):w.heap[b]?=some (.cells (keyC p) 105 (0,0)):=by
 obtain ⟨c,h1,h2,h3⟩:=h
 have:c=keyC p:=by
  apply Array.ext_getElem?
  intro i
  by_cases hi:i<64
  ·rw [get_keyC p i hi,← hf i hi]; exact h3 i hi
  ·rw [Array.getElem?_eq_none (by omega),Array.getElem?_eq_none (by rw [size_keyC]; omega)]
 rw [← this]; exact h1
def kb (p:List Nat):List UInt8:=(List.range 64).map fun i=>UInt8.ofNat (p.getD i 0)
theorem len_kb (p:List Nat):(kb p).length=64:=by simp [kb]
def GK (d:Nat) (p:List Nat):Prop:=p.length=d∧d≤64∧∀ x∈p,x<256
theorem GK.getD {d:Nat} {p:List Nat} (h:GK d p) (i:Nat):p.getD i 0<256:=by
 by_cases hi:i<p.length
 ·rw [Ma.getD_lt hi]; exact h.2.2 _ (List.getElem_mem hi)
 ·rw [List.getD_eq_getElem?_getD,List.getElem?_eq_none (by omega)]; decide
theorem keyC_kb {d:Nat} {p:List Nat} (h:GK d p):Value.agg (keyC p)=Km.keyV (kb p):=by
 unfold Km.keyV
 congr 1
 apply Array.ext_getElem?
 intro i
 by_cases hi:i<64
 ·rw [get_keyC p i hi]
  simp [kb,hi,keyF,Go.Extern.Stop.cell];have:=h.getD i;rw [List.getD_eq_getElem?_getD] at this;omega
 ·rw [Array.getElem?_eq_none (by rw [size_keyC]; omega),Array.getElem?_eq_none (by simp [kb]; omega)]
theorem kb_inj {d:Nat} {p q:List Nat} (hp:GK d p) (hq:GK d q) (h:kb p=kb q):p=q:=by
 apply List.ext_getElem (hp.1.trans hq.1.symm)
 intro i h1 h2
 have hi:i<64:=by have:=hp.1; have:=hp.2.1; omega
 have e:=congrArg (fun l=>l[i]?) h;simp only [kb,List.getElem?_map,List.getElem?_range hi,Option.map_some,Option.some.injEq] at e;have e2:=congrArg UInt8.toNat e;have g1:=hp.getD i; have g2:=hq.getD i;simp only [UInt8.toNat_ofNat',Nat.mod_eq_of_lt g1,Nat.mod_eq_of_lt g2] at e2
 rwa [Ma.getD_lt h1,Ma.getD_lt h2] at e2
theorem kb_beq {d:Nat} {p q:List Nat} (hp:GK d p) (hq:GK d q):(kb p == kb q)=(p == q):=by
 rw [Bool.eq_iff_iff,beq_iff_eq,beq_iff_eq];exact ⟨kb_inj hp hq,fun h=>by rw [h]⟩
theorem kt:Km.KT Tryz.prog 107 105 5 4 64 (.bool false) :=
 ⟨Tryz.underlying107,Tryz.underlying105,Tryz.underlying5,fun w=>by kernel_rfl,fun w=>by kernel_rfl⟩
def seenM (T:List (List Nat)):List (List UInt8 × Value):=T.map fun p=>(kb p,.bool true)
theorem len_seenM (T:List (List Nat)):∀ x∈seenM T,x.1.length=64:=fun x hx=>by
 obtain ⟨y,_,rfl⟩:=List.mem_map.1 hx;exact len_kb _
theorem look_seenM {d:Nat} {p:List Nat} (hp:GK d p):∀ {T:List (List Nat)},(∀ q∈T,GK d q)→Km.look (seenM T) (kb p)=if p∈T then some (.bool true) else none
 | [],_=>by simp [seenM,Km.look]
 | x :: T,h=>by
  have ih:=look_seenM hp (T:=T) (fun y hy=>h y (by simp [hy]));have hx:=h x (by simp);unfold Km.look seenM at *;rw [List.map_cons,List.find?_cons];simp only [kb_beq hp hx]
  cases hb:(p == x)
  ·rw [ih]
   have hne:p≠x:=by simpa using hb
   simp [List.mem_cons,hne]
  ·have he:p=x:=by simpa using hb
   simp [he]
end Go.Proofs.YthehbckogieimaaGreat

namespace Go.Proofs.YthehbckogieimaaGreat
open Go.RowKit
open Go.Proofs
open Go.Proofs.Ob
attribute [local irreducible] Go.Calls Go.wpList
theorem mkInts (n:Nat) (hn:n≤1000000) (w:World):(Instr.makeSlice 36 (.int .i64 (n:Int)) (.int .i64 (n:Int))).run Tryz.prog w=.ok (.slice (some ⟨w.heap.size,0,none⟩) n n) (w.alloc (.cells (madeCells #[.int .i64 0] n) 3)) :=
 run_make_row' 36 3 (.int .i64 0) 8 Tryz.underlying36 infoInt rfl .i64 .i64 n (by omega) (by omega) w
theorem marksI (w:World) (n:Nat):(w.alloc (.cells (madeCells #[.int .i64 0] n) 3)).rowIs w.heap.size 3 n (fun _=>.int .i64 0):=World.rowIs_made w (.int .i64 0) n 3
end Go.Proofs.YthehbckogieimaaGreat

namespace Go.Proofs
open Go.Shelf
def Tryz.laysSlF6_f91_ren:Go.Shelf.Ren:=⟨fun | 6=>91 | 15=>174 | 14=>173 | 28=>253 | 29=>254 | 20=>245 | 21=>246 | 22=>247 | 23=>248 | 24=>249 | 25=>250 | 26=>251 | 27=>252 | 46=>302 | 47=>303 | 48=>304 | 49=>305 | 50=>306 | 57=>319 | n=>n,fun | 22=>27 | 24=>36 | 25=>110 | 3=>3 | 39=>185 | 0=>0 | 53=>259 | 55=>261 | 4=>4 | 46=>253 | 45=>252 | 50=>121 | 5=>5 | 9=>9 | 66=>293 | 70=>297 | 76=>307 | 77=>308 | n=>n,fun | n=>n⟩
theorem Tryz.laysSlF6_f91:Go.Proofs.SlLaysF.n6 Tryz.prog Tryz.laysSlF6_f91_ren:={
 mixed:=by kernel_rfl
 f6:=⟨Tryz.f91.name,by decide,Tryz.func91.trans (congrArg some (by kernel_rfl))⟩
 f14:=⟨Tryz.f173.name,by decide,Tryz.func173.trans (congrArg some (by kernel_rfl))⟩
 f15:=Tryz.func174.trans (congrArg some (by kernel_rfl))
 f20:=⟨Tryz.f245.name,by decide,Tryz.func245.trans (congrArg some (by kernel_rfl))⟩
 f21:=⟨Tryz.f246.name,by decide,Tryz.func246.trans (congrArg some (by kernel_rfl))⟩
 f22:=⟨Tryz.f247.name,by decide,Tryz.func247.trans (congrArg some (by kernel_rfl))⟩
 f23:=⟨Tryz.f248.name,by decide,Tryz.func248.trans (congrArg some (by kernel_rfl))⟩
 f24:=⟨Tryz.f249.name,by decide,Tryz.func249.trans (congrArg some (by kernel_rfl))⟩
 f25:=⟨Tryz.f250.name,by decide,Tryz.func250.trans (congrArg some (by kernel_rfl))⟩
 f26:=⟨Tryz.f251.name,by decide,Tryz.func251.trans (congrArg some (by kernel_rfl))⟩
 f27:=⟨Tryz.f252.name,by decide,Tryz.func252.trans (congrArg some (by kernel_rfl))⟩
 f28:=Tryz.func253.trans (congrArg some (by kernel_rfl))
 f29:=Tryz.func254.trans (congrArg some (by kernel_rfl))
 f46:=⟨Tryz.f302.name,by decide,Tryz.func302.trans (congrArg some (by kernel_rfl))⟩
 f47:=Tryz.func303.trans (congrArg some (by kernel_rfl))
 f48:=Tryz.func304.trans (congrArg some (by kernel_rfl))
 f49:=⟨Tryz.f305.name,by decide,Tryz.func305.trans (congrArg some (by kernel_rfl))⟩
 f50:=⟨Tryz.f306.name,by decide,Tryz.func306.trans (congrArg some (by kernel_rfl))⟩
 f57:=⟨Tryz.f319.name,by decide,Tryz.func319.trans (congrArg some (by kernel_rfl))⟩
 t0:=Tryz.underlying0
 a0:=Tryz.isAgg0
 z0:=Tryz.sizeOf0
 v0:=Tryz.zeroValue0
 t3:=Tryz.underlying3
 a3:=Tryz.isAgg3
 z3:=Tryz.sizeOf3
 v3:=Tryz.zeroValue3
 t4:=Tryz.underlying4
 a4:=Tryz.isAgg4
 z4:=Tryz.sizeOf4
 v4:=Tryz.zeroValue4
 t5:=Tryz.underlying5
 a5:=Tryz.isAgg5
 z5:=Tryz.sizeOf5
 v5:=Tryz.zeroValue5
 t9:=Tryz.underlying9
 a9:=Tryz.isAgg9
 z9:=Tryz.sizeOf9
 v9:=Tryz.zeroValue9
 t22:=Tryz.underlying27
 a22:=Tryz.isAgg27
 z22:=Tryz.sizeOf27
 v22:=Tryz.zeroValue27
 a24:=Tryz.isAgg36
 z24:=Tryz.sizeOf36
 t25:=Tryz.underlying110
 a25:=Tryz.isAgg110
 z25:=Tryz.sizeOf110
 v25:=Tryz.zeroValue110
 t39:=Tryz.underlying185
 a39:=Tryz.isAgg185
 z39:=Tryz.sizeOf185
 v39:=Tryz.zeroValue185
 t45:=Tryz.underlying252
 a45:=Tryz.isAgg252
 z45:=Tryz.sizeOf252
 v45:=Tryz.zeroValue252
 t46:=Tryz.underlying253
 a46:=Tryz.isAgg253
 z46:=Tryz.sizeOf253
 v46:=Tryz.zeroValue253
 t50:=Tryz.underlying121
 a50:=Tryz.isAgg121
 z50:=Tryz.sizeOf121
 v50:=Tryz.zeroValue121
 t53:=Tryz.underlying259
 a53:=Tryz.isAgg259
 z53:=Tryz.sizeOf259
 v53:=Tryz.zeroValue259
 t55:=Tryz.underlying261
 a55:=Tryz.isAgg261
 z55:=Tryz.sizeOf261
 v55:=Tryz.zeroValue261
 t66:=Tryz.underlying293
 a66:=Tryz.isAgg293
 z66:=Tryz.sizeOf293
 v66:=Tryz.zeroValue293
 t70:=Tryz.underlying297
 a70:=Tryz.isAgg297
 z70:=Tryz.sizeOf297
 v70:=Tryz.zeroValue297
 t76:=Tryz.underlying307
 a76:=Tryz.isAgg307
 z76:=Tryz.sizeOf307
 v76:=Tryz.zeroValue307
 t77:=Tryz.underlying308
 a77:=Tryz.isAgg308
 z77:=Tryz.sizeOf308
 v77:=Tryz.zeroValue308 }
open Go.RowKit Go.Lib Go.Sort in
theorem Tryz.slices_SortFunc {α:Type} [Inhabited α] (enc:α→Value) (h1:OneCell enc) (cf:α→α→Int) (hO:SWO (ltOf cf)) (g:Nat) (cb:Array Value) (blk off cap:Nat) (d:Array α) (w:World) (eg:∀ args w,(callFunc g args).run Tryz.prog w=.ok (.enter g args) w) (hcmp:CmpLays1 Tryz.prog g cb enc cf blk off d.size w) (hH:Holds enc w blk off d) (hblk:blk<w.heap.size) (hsz:d.size<4611686018427387904) :
  Calls Tryz.prog 91 #[.slice (some ⟨blk,off,none⟩) d.size cap,.func (.func g) #[] cb] w fun e w' =>
   e=.returned (.tuple #[])∧∃ d' n os,PermIn 0 d.size d d'∧SortedIn (ltOf cf) 0 d.size d'∧w'=sortWorld enc w blk off n d' os:=Any.slices_SortFunc Tryz.laysSlF6_f91 enc h1 cf hO g cb blk off cap d w eg hcmp hH hblk hsz
end Go.Proofs

namespace Go.Proofs.YthehbckogieimaaGreat
open Go.RowKit
open Go.Proofs
open Go.Sort
attribute [local irreducible] Go.Calls
def El (F:Nat→Prop) (w:World):={ p:Value × List Int // Rg.FI F w p.1 p.2 }
theorem fi_nil (F:Nat→Prop) (w:World):Rg.FI F w (.slice none 0 0) []:=⟨none,0,rfl,Nat.le_refl _,Nat.zero_le _,Nat.zero_le _,fun h=>absurd h (Nat.lt_irrefl 0)⟩
instance (F:Nat→Prop) (w:World):Inhabited (El F w):=⟨⟨(.slice none 0 0,[]),fi_nil F w⟩⟩
def elV {F:Nat→Prop} {w:World} (p:El F w):Value:=p.1.1
def elC {F:Nat→Prop} {w:World} (p q:El F w):Int:=cmpL p.1.2 q.1.2
theorem elC_lt {F:Nat→Prop} {w:World} (p q:El F w):ltOf elC p q=lessL p.1.2 q.1.2:=cmpL_lt _ _
theorem lessL_n {a b c:List Int} (h:lessL a b=false) (h2:lessL b c=false):lessL a c=false:=by
 by_cases e:a=b
 ·subst e; exact h2
 ·by_cases e2:b=c
  ·subst e2; exact h
  ·have h3:=lessL_trans (lessL_total h2 e2) (lessL_total h e)
   cases h4:lessL a c
   ·rfl
   ·have:=lessL_trans h3 h4
    rw [lessL_irr] at this; cases this
theorem el_swo (F:Nat→Prop) (w:World):SWO (ltOf (elC (F:=F) (w:=w))) where
 irrefl x:=by rw [elC_lt]; exact lessL_irr _
 trans x y z h1 h2:=by rw [elC_lt] at *; exact lessL_trans h1 h2
 ntrans x y z h1 h2:=by rw [elC_lt] at *; exact lessL_n h1 h2
theorem sortWorld_kp {α:Type} [Inhabited α] {enc:α→Value} {w:World} {blk m:Nat} {dk:Array α} {os:Array Obj}:Rg.Kp (fun z=>z=blk) w (sortWorld enc w blk 0 m dk os):=by
 refine ⟨rfl,rfl,rfl,by simp [sortWorld,grow,putRow,mapBlock,Sort.ahead],fun k hk hn=>?_⟩;unfold sortWorld;rw [heap_grow_old _ _ (by simpa [putRow,mapBlock,Sort.ahead] using hk)];have:blk≠k:=fun e=>hn e.symm;simp [putRow,mapBlock,Sort.ahead,Array.getElem?_modify,this]
theorem clCmp (args:Array Value) (w:World):(callFunc 90 args).run Tryz.prog w=.ok (.enter 90 args) w:=by kernel_rfl
theorem sortLL {F:Nat→Prop} {w:World} {blk cap:Nat} {us:List Value} {ll:List (List Int)} (hus:Rg.FElts F w us ll) (hF:¬ F blk) (hc:∀ i (h:i<us.length),w.cell? ⟨blk,i,none⟩=some us[i]∧w.frozen? ⟨blk,i,none⟩=false) (hlt:blk<w.heap.size) (hn:ll.length≤1000000) (hcap:ll.length≤cap) (hcm:cap≤maxLen) :
  Calls Tryz.prog 91 #[.slice (some ⟨blk,0,none⟩) ll.length cap,.func (.func 90) #[] #[]] w fun e w'=>e=.returned (.tuple #[])∧∃ ll',ll'.Perm ll∧ll'.Pairwise (fun a b=>lessL b a=false)∧Rg.Rows w' (.slice (some ⟨blk,0,none⟩) ll.length cap) ll'∧Rg.Kp (fun z=>z=blk) w w':=by
 obtain ⟨d,hd,hde⟩:∃ d:Array (El F w),d.size=ll.length∧∀ i (h:i<d.size) (h2:i<us.length) (h3:i<ll.length),d[i].1=(us[i],ll[i]) :=
  by
   obtain ⟨hl,he⟩:=hus;exact ⟨Array.ofFn (n:=ll.length) fun i=>⟨(us[i.1]'(by rw [hl]; exact i.2),ll[i.1]),he i.1 _ _⟩,Array.size_ofFn,fun i h h2 h3=>congrArg Subtype.val (Array.getElem_ofFn h)⟩
 have hH:Holds elV w blk 0 d:=fun j hj=>by
  have hj2:j<us.length:=by rw [hus.1,← hd]; exact hj
  rw [Nat.zero_add,getElem!_pos d j hj]
  have e:elV d[j]=us[j]:=by unfold elV; rw [hde j hj hj2 (by omega)]
  rw [e];exact hc j hj2
 have hcmp:CmpLays1 Tryz.prog 90 #[] elV elC blk 0 d.size w:=fun m os dk _ x y=>by
  have hk:=sortWorld_kp (enc:=elV) (w:=w) (blk:=blk) (m:=m) (dk:=dk) (os:=os);have hx:=(Rg.FI.kp x.2 hk (fun z hz e=>hF (e▸hz))).ints;have hy:=(Rg.FI.kp y.2 hk (fun z hz e=>hF (e▸hz))).ints;refine (Compare_any _ _ x.1.2 y.1.2 _ hx hy).mono ?_;rintro e w' ⟨h1,h2⟩;exact ⟨h1,0,#[],by rw [h2,grow_empty]; rfl⟩
 have hs:=Tryz.slices_SortFunc elV (fun x=>by obtain ⟨a,c,h,_⟩:=x.2; show x.1.1.oneCell'=true; rw [h]; rfl) elC (el_swo F w) 90 #[] blk 0 cap d w clCmp hcmp hH hlt (by rw [hd]; omega);rw [hd] at hs;refine hs.mono ?_;rintro e w' ⟨rfl,d',m,os,hp,hso,rfl⟩;have hk:=sortWorld_kp (enc:=elV) (w:=w) (blk:=blk) (m:=m) (dk:=d') (os:=os)
 have hd':d'.size=ll.length:=by rw [hp.1,hd]
 have hx1:d'.extract 0 ll.length=d':=by rw [← hd']; simp
 have hx2:d.extract 0 ll.length=d:=by rw [← hd]; simp
 have hh:=SW.holds (W:=sortWorld elV w blk 0 m d' os) ⟨m,os,rfl⟩ hlt hH (by rw [hd',hd]);refine ⟨rfl,d'.toList.map (·.1.2),?_,?_,?_,hk⟩
 ·have h1:=hp.2.2
  rw [hx1,hx2] at h1;have h2:=h1.map (fun p:El F w=>p.1.2)
  have e:d.toList.map (fun p:El F w=>p.1.2)=ll:=by
   apply List.ext_getElem
   ·simp [hd]
   ·intro i h1 h2
    have h3:i<d.size:=by simpa using h1
    rw [List.getElem_map,Array.getElem_toList,hde i h3 (by rw [hus.1]; exact h2) h2]
  rwa [e] at h2
 ·rw [List.pairwise_iff_getElem]
  intro i j hi hj hij;simp only [List.length_map,Array.length_toList] at hi hj;have:=hso i j (Nat.zero_le _) hij (by rw [← hd']; exact hj);rw [elC_lt,getElem!_pos d' j hj,getElem!_pos d' i hi] at this
  simpa using this
 ·refine ⟨d'.toList.map (·.1.1),⟨some ⟨blk,0,none⟩,cap,by simp [hd'],by simp [hd']; exact hcap,hcm,by simp [hd',Rg.big]; omega,fun _=>⟨blk,0,rfl,Nat.lt_of_lt_of_le hlt hk.size,fun i hi=>?_⟩⟩,by simp,fun i h1 h2=>?_⟩
  ·have hi2:i<d'.size:=by simpa using hi
   have:=(hh i hi2).1;rw [this,getElem!_pos d' i hi2];simp [elV]
  ·have hi2:i<d'.size:=by simpa using h1
   have:=(Rg.FI.kp (d'[i]).2 hk (fun z hz e=>hF (e▸hz))).ints;simp only [List.getElem_map,Array.getElem_toList];exact this
end Go.Proofs.YthehbckogieimaaGreat

namespace Go.Proofs.YthehbckogieimaaGreat
open Go.RowKit
open Go.Proofs
open Go.Proofs.Ob
open Go.Proofs.Cm (Gd)
attribute [local irreducible] Go.Calls Go.wpList
structure IB (w:World) (v:Value) (l:List Int):Prop where
 i:Rg.IntsB maxLen w v l
theorem IB.below {w w':World} {v:Value} {l:List Int} (h:IB w v l) (hb:Below w.heap.size w w'):IB w' v l:=⟨Rg.IntsB.below h.i hb⟩
theorem ChAns.zero {w:World} {d:Int} {ll:List (List Int)} {cv:Value} {c:Int} (h:ChAns w d ll cv c) (hc:c≠0):cv=zeroC:=by
 rcases h with ⟨_,h⟩ | ⟨h,_⟩
 ·exact h
 ·exact absurd h hc
theorem gck_good {D:Nat} (h1:1≤D) (h2:D≤64):∀ {gs:List (List Nat)},(∀ s∈gs,Gd D s)→Ma.gck ((D:Nat):Int) (gs.map Ma.ofN)=0
 | [],_=>rfl
 | s :: gs,h=>by
  have g:=h s (List.mem_cons_self ..);have e1:Ma.pchk (Ma.ofN s)=0:=Ma.pchk_ok (by rw [Ma.len_ofN,g.2]; exact h1) (by rw [Ma.len_ofN,g.2]; exact h2) (Ma.okN_ofN g.1)
  have e2:((Ma.ofN s).length:Int)=((D:Nat):Int):=by rw [Ma.len_ofN,g.2]
  show (if Ma.pchk (Ma.ofN s)=0 then (if ((Ma.ofN s).length:Int)=((D:Nat):Int) then Ma.gck ((D:Nat):Int) (gs.map Ma.ofN) else 10) else Ma.pchk (Ma.ofN s))=0;rw [if_pos e1,if_pos e2];exact gck_good h1 h2 (fun x hx=>h x (List.mem_cons_of_mem _ hx))
theorem gchk_good {D:Nat} (h1:1≤D) (h2:D≤64) {gs:List (List Nat)} (hl:gs.length≤16) (h:∀ s∈gs,Gd D s):Ma.gchk ((D:Nat):Int) (gs.map Ma.ofN)=0:=by
 unfold Ma.gchk;rw [if_pos (by omega),if_pos (by rw [List.length_map]; exact hl)];exact gck_good h1 h2 h
end Go.Proofs.YthehbckogieimaaGreat

namespace Go.Proofs.YthehbckogieimaaGreat
open Go.RowKit
open Go.Proofs
open Go.Proofs.Ob
open Go.Proofs.Cm (Gd Gr IsChain)
attribute [local irreducible] Go.Calls Go.wpList
theorem exec_eqB {o:Oper} {a:Act} {w:World} (x y:Operand) (ho:o.op=.binOp .eql 4 x y 4) {s:Bool} (hx:a.eval x=.bool s) (hy:a.eval y=.bool s):(execOp a.eval o).run Tryz.prog w=.ok (.value (.bool true)) w:=by
 unfold execOp;simp only [ho,hx,hy]
 cases s <;> kernel_rfl

theorem nodup_inj {α:Type} {l:List α} (h:l.Nodup) {i j:Nat} {hi:i<l.length} {hj:j<l.length} (e:l[i]=l[j]):i=j:=by
 have hp:=List.pairwise_iff_getElem.1 h
 rcases Nat.lt_trichotomy i j with h1 | h1 | h1
 ·exact absurd e (hp i j hi hj h1)
 ·exact h1
 ·exact absurd e.symm (hp j i hj hi h1)
structure C4 (W:World) (b1 o1 b2 o2 b3 o3 b4 o4:Nat) (v1 v2 v3 v4:Value):Prop where
 c1:W.cell? ⟨b1,o1,none⟩=some v1
 c2:W.cell? ⟨b2,o2,none⟩=some v2
 c3:W.cell? ⟨b3,o3,none⟩=some v3
 c4:W.cell? ⟨b4,o4,none⟩=some v4
theorem cell_below {W X:World} {b o:Nat} {u:Value} (h:W.cell? ⟨b,o,none⟩=some u) (hb:Below W.heap.size W X):X.cell? ⟨b,o,none⟩=some u:=(Below.cell (p:=⟨b,o,none⟩) hb (lt_of_cell h)).trans h
theorem C4.below {W X:World} {b1 o1 b2 o2 b3 o3 b4 o4:Nat} {v1 v2 v3 v4:Value} (h:C4 W b1 o1 b2 o2 b3 o3 b4 o4 v1 v2 v3 v4) (hb:Below W.heap.size W X):C4 X b1 o1 b2 o2 b3 o3 b4 o4 v1 v2 v3 v4 :=
 ⟨cell_below h.c1 hb,cell_below h.c2 hb,cell_below h.c3 hb,cell_below h.c4 hb⟩
theorem C4.kp {M:Nat→Prop} {W X:World} {b1 o1 b2 o2 b3 o3 b4 o4:Nat} {v1 v2 v3 v4:Value} (h:C4 W b1 o1 b2 o2 b3 o3 b4 o4 v1 v2 v3 v4) (hk:Rg.Kp M W X) (n1:¬ M b1) (n2:¬ M b2) (n3:¬ M b3) (n4:¬ M b4):C4 X b1 o1 b2 o2 b3 o3 b4 o4 v1 v2 v3 v4 :=
 ⟨cell_kp h.c1 hk n1,cell_kp h.c2 hk n2,cell_kp h.c3 hk n3,cell_kp h.c4 hk n4⟩
structure NpW (w:World) (v:Value) (x:List Nat):Prop where
 np:Rg.NP w v x
theorem NpW.below {w w':World} {v:Value} {x:List Nat} (h:NpW w v x) (hb:Below w.heap.size w w'):NpW w' v x:=⟨Rg.NP.below h.np hb⟩
end Go.Proofs.YthehbckogieimaaGreat

namespace Go.Proofs.YthehbckogieimaaGreat
open Go.RowKit
open Go.Proofs
open Go.Proofs.Ob
open Go.Proofs.Cm (Gd Gr)
attribute [local irreducible] Go.Calls Go.wpList
theorem put_seen {W:World} {r d:Nat} {T:List (List Nat)} {x:List Nat} (h:Km.KMap W r (seenM T)) (hg:∀ q∈T,GK d q) (hx:GK d x) (hn:x∉T) :
  ∃ X,(Instr.mapUpdate 107 (.map (some r)) (.agg (keyC x)) (.bool true)).run Tryz.prog W=.ok () X∧Km.KMap X r (seenM (T++[x]))∧W.grownBy X (some r):=by
 rw [keyC_kb hx];obtain ⟨X,h1,h2,h3⟩:=Km.update_new kt h (len_seenM T) (kb x) (len_kb x) (by rw [look_seenM hx hg,if_neg hn]) (.bool true);exact ⟨X,h1,by unfold seenM at h2 ⊢; rw [List.map_append]; exact h2,h3⟩
theorem look_run {W:World} {r d:Nat} {T:List (List Nat)} {x:List Nat} (h:Km.KMap W r (seenM T)) (hg:∀ q∈T,GK d q) (hx:GK d x) :
  (Instr.lookup 107 (.map (some r)) (.agg (keyC x)) false).run Tryz.prog W=.ok (.bool (decide (x∈T))) W:=by
 rw [keyC_kb hx];have h1:=Km.lookup_no kt h (len_seenM T) (kb x) (len_kb x);rw [look_seenM hx hg] at h1
 by_cases e:x∈T
 ·rw [if_pos e] at h1; rw [decide_eq_true e]; exact h1
 ·rw [if_neg e] at h1; rw [decide_eq_false e]; exact h1
structure SpM (w W:World) (F:Nat→Prop) (r:Nat) (fv:Value) (T:List (List Nat)):Prop where
 bel:Below w.heap.size w W
 row:RowJ w.heap.size F (fun z=>z=r) W fv (T.map Ma.ofN)
 mp:Km.KMap W r (seenM T)
 rlo:w.heap.size≤r
 nF:¬ F r
 Flt:∀ z,F z→z<W.heap.size
theorem SpM.up {w W W':World} {F:Nat→Prop} {r:Nat} {fv:Value} {T:List (List Nat)} (h:SpM w W F r fv T) (hb:Below W.heap.size W W'):SpM w W' (Fup F W W') r fv T :=
 ⟨Rg.acc h.bel hb,h.row.upk (N:=fun _=>False) (Rg.Kp.of_below hb) (fun _ _=>id) (fun _ e=>e.elim),h.mp.below hb,h.rlo,fun g=>by
  rcases g with g | g
  ·exact h.nF g
  ·have:=h.mp.lt; omega,fun z g=>by
  rcases g with g | g
  ·exact Nat.lt_of_lt_of_le (h.Flt z g) hb.size
  ·exact g.2⟩
theorem SpM.put {w W:World} {F:Nat→Prop} {r d:Nat} {fv u:Value} {T:List (List Nat)} {x:List Nat} (h:SpM w W F r fv T) (hg:∀ q∈T,GK d q) (hx:GK d x) (hn:x∉T) (hu:Rg.FI F W u (Ma.ofN x)) (hs:∃ a m c,u=.slice a m c) (hT:T.length<1000000) (ty:TypeId) :
  ∃ X,(Instr.mapUpdate 107 (.map (some r)) (.agg (keyC x)) (.bool true)).run Tryz.prog W=.ok () X ∧
   ∃ a c Y,(Builtin.append_ #[27,27] ty #[fv,.slice (some ⟨X.heap.size,0,none⟩) 1 1]).run Tryz.prog (X.alloc (.cells #[u] 36))=.ok (.slice a (T.length+1) c) Y∧SpM w Y F r (.slice a (T.length+1) c) (T++[x]):=by
 obtain ⟨X,h1,h2,h3⟩:=put_seen h.mp hg hx hn;have hk:Rg.Kp (fun z=>z=r) W X:=Rg.Kp.of_grown h3 (fun k e=>(Option.some.inj e).symm);have hrow:=h.row.kp hk (fun k hF e=>h.nF (e▸hF)) (fun k e e2=>(h.row.off k e).2 e2);have hu2:=Rg.FI.kp hu hk (fun z hF e=>h.nF (e▸hF));obtain ⟨a,c,Y,r1,r2,r3⟩:=hrow.push hu2 hs (fun k g=>Nat.lt_of_lt_of_le (h.Flt k g) hk.size) (fun k e=>by subst e; exact h2.lt) (by rw [List.length_map]; exact hT) ty;rw [List.length_map] at r1 r2;refine ⟨X,h1,a,c,Y,r1,⟨?_,by rw [List.map_append]; exact r2,?_,h.rlo,h.nF,fun z g=>Nat.lt_of_lt_of_le (h.Flt z g) (Nat.le_trans hk.size r3.size)⟩⟩
 ·exact kp_below (kp_below h.bel h.bel.size hk (fun k e=>by subst e; exact h.rlo)) (Nat.le_trans h.bel.size hk.size) r3 (fun k e=>(hrow.lt k e).1)
 ·exact h2.of_block (r3.block r h2.lt (fun e=>(hrow.off r e).2 rfl))
structure KmW (w:World) (r:Nat) (T:List (List Nat)):Prop where
 m:Km.KMap w r (seenM T)
theorem KmW.below {w w':World} {r:Nat} {T:List (List Nat)} (h:KmW w r T) (hb:Below w.heap.size w w'):KmW w' r T:=⟨h.m.below hb⟩
structure FiW (F:Nat→Prop) (w:World) (v:Value) (x:List Nat):Prop where
 fi:Rg.FI F w v (Ma.ofN x)
theorem FiW.up {F:Nat→Prop} {w w':World} {v:Value} {x:List Nat} (h:FiW F w v x) (hb:Below w.heap.size w w'):FiW (Fup F w w') w' v x :=
 ⟨Rg.FI.mono (Rg.FI.kp (M:=fun _=>False) h.fi (Rg.Kp.of_below hb) (fun _ _=>id)) (fun _=>.inl)⟩
theorem SpM.start {w W:World} {u:Value} {x:List Nat} (hb:Below w.heap.size w W) (hm:Km.KMap W w.heap.size (seenM ([]++[x]))) (hu:Rg.NP w u x) (hs:∃ a m c,u=.slice a m c):SpM w (W.alloc (.cells #[u] 36)) (fun z=>z<w.heap.size) w.heap.size (.slice (some ⟨W.heap.size,0,none⟩) 1 1) [x]:=by
 have hfi:Rg.FI (fun z=>z<w.heap.size) W u (Ma.ofN x):=Rg.FI.kp (M:=fun _=>False) (Rg.FI.old hu) (Rg.Kp.of_below hb) (fun _ _=>id);have hbA:Below W.heap.size W (W.alloc (.cells #[u] 36)):=(Below.refl _ _).alloc (Nat.le_refl _) _;exact ⟨hb.alloc hb.size _,RowJ.one hb.size hfi hs (fun k hk=>Nat.lt_of_lt_of_le hk hb.size) (fun k e=>by subst e; exact hm.lt),by simpa using hm.below hbA,Nat.le_refl _,Nat.lt_irrefl _,fun z hz=>Nat.lt_of_lt_of_le hz (Nat.le_trans hb.size hbA.size)⟩

theorem toN1 (x:List Nat):(Ma.ofN x).map Int.toNat=x:=by
 unfold Ma.ofN;rw [List.map_map];exact (List.map_congr_left (fun _ _=>rfl)).trans (List.map_id x)
def AscL (T:List (List Nat)):Prop:=(T.map Ma.ofN).Pairwise fun a b=>lessL b a=false
theorem ofN_toNat {T:List (List Nat)} {z:List Int} (h:z∈T.map Ma.ofN):Ma.ofN (z.map Int.toNat)=z:=by
 obtain ⟨x,_,rfl⟩:=List.mem_map.1 h;rw [toN1]
theorem perm_back {T:List (List Nat)} {ll:List (List Int)} (h:ll.Perm (T.map Ma.ofN)):∃ T':List (List Nat),ll=T'.map Ma.ofN∧T'.Perm T:=by
 refine ⟨ll.map fun z=>z.map Int.toNat,?_,?_⟩
 ·rw [List.map_map]
  have e:ll.map id=ll.map (Ma.ofN ∘ fun z=>z.map Int.toNat):=by
   apply List.map_congr_left
   intro z hz;exact (ofN_toNat (h.mem_iff.1 hz)).symm
  rw [← e,List.map_id]
 ·have h2:=h.map fun z=>z.map Int.toNat
  have e:(T.map Ma.ofN).map (fun z=>z.map Int.toNat)=T:=by
   rw [List.map_map]
   have e:T.map (((fun z:List Int=>z.map Int.toNat)) ∘ Ma.ofN)=T.map id:=by
    apply List.map_congr_left
    intro x _;exact toN1 x
   rw [e,List.map_id]
  rw [e] at h2;exact h2

theorem exec_buildGz {o:Oper} {a:Act} {w:World} (ho:o.op=.build 24 #[]):(execOp a.eval o).run Tryz.prog w=.ok (.value (.agg #[.int .i64 0,.slice none 0 0])) w:=by
 unfold execOp;simp only [ho,Sem.run_bind,Sem.run_pure];simp only [List.map_toArray,List.map_nil]
 have h:(Instr.build 24 #[]).run Tryz.prog w=.ok (.agg #[.int .i64 0,.slice none 0 0]) w:=by kernel_rfl
 first | (rw [h]; rfl) | (erw [h]; rfl)
end Go.Proofs.YthehbckogieimaaGreat

namespace Go.Proofs.YthehbckogieimaaGreat
open Go.Proofs
open Go.Proofs.Ob
def goW (gs:List (List Nat)) (p:Nat) (w:List Nat):Nat:=w.foldl (fun x g=>img gs (g - 1) x) p
theorem goW_snoc (gs:List (List Nat)) (p:Nat) (w:List Nat) (g:Nat):goW gs p (w++[g])=img gs (g - 1) (goW gs p w):=by simp [goW]
def WOk (gs:List (List Nat)) (p:Nat) (e:En):Prop:=goW gs p e.2.2.2=e.1∧∀ g∈e.2.2.2,1≤g∧g≤gs.length
theorem putG_w {gs:List (List Nat)} {p s:Nat} {e:En} {T:List En} (h:∀ x∈T,WOk gs p x) (he:WOk gs p e) (hs:s<gs.length):∀ x∈putG gs e T s,WOk gs p x:=by
 unfold putG
 split
 ·exact h
 ·intro x hx
  rcases List.mem_append.1 hx with hx | hx
  ·exact h x hx
  ·rw [List.mem_singleton] at hx
   subst hx;refine ⟨?_,fun g hg=>?_⟩
   ·show goW gs p (e.2.2.2++[s+1])=img gs s e.1
    rw [goW_snoc,he.1]; rfl
   ·rcases List.mem_append.1 hg with hg | hg
    ·exact he.2 g hg
    ·rw [List.mem_singleton] at hg; omega
theorem innG_w {gs:List (List Nat)} {p:Nat} {e:En} {T:List En} (h:∀ x∈T,WOk gs p x) (he:WOk gs p e):∀ n,n≤gs.length→∀ x∈innG gs e T n,WOk gs p x
 | 0,_=>h
 | n+1,hn=>by rw [innG_succ]; exact putG_w (innG_w h he n (by omega)) he (by omega)
theorem trI_w (gs:List (List Nat)) (p:Nat):∀ k,∀ x∈trI gs p k,WOk gs p x
 | 0=>fun x hx=>by
  have:x=(p,-1,0,[]):=by simpa [trI] using hx
  subst this;exact ⟨rfl,fun g hg=>by cases hg⟩
 | k+1=>by
  by_cases h:k<(trI gs p k).length
  ·rw [trI_some h]
   exact innG_w (trI_w gs p k) (trI_w gs p k _ (List.getElem_mem h)) _ (Nat.le_refl _)
  ·rw [trI_none (by omega)]
   exact trI_w gs p k
inductive Rc (gs:List (List Nat)) (p:Nat):Nat→Prop
 | base:Rc gs p p
 | step {s x:Nat}:s<gs.length→Rc gs p x→Rc gs p (img gs s x)
theorem goW_rc {gs:List (List Nat)} {p:Nat}:∀ (w:List Nat) (x:Nat),Rc gs p x→(∀ g∈w,1≤g∧g≤gs.length)→Rc gs p (goW gs x w)
 | [],_,h,_=>h
 | g :: w,x,h,hw=>by
  have:=hw g (by simp);exact goW_rc w _ (.step (by omega) h) (fun y hy=>hw y (List.mem_cons_of_mem _ hy))
theorem Rc.trans {gs:List (List Nat)} {p q x:Nat} (h:Rc gs p q) (h2:Rc gs q x):Rc gs p x:=by
 induction h2 with
 | base=>exact h
 | step hs _ ih=>exact .step hs ih
theorem tree_rc {gs:List (List Nat)} {D p x:Nat} (hc:Cl D gs) (hp:p<D):x∈pts (tree gs D p)↔Rc gs p x:=by
 constructor
 ·intro hx
  obtain ⟨i,hi,rfl⟩:=mem_idx hx;have hw:=trI_w gs p D _ (List.getElem_mem hi);rw [← hw.1];exact goW_rc _ _ .base hw.2
 ·intro h
  induction h with
  | base =>
   have h0:=(tree_ok hc hp).hd;obtain ⟨h1,h2⟩:=List.getElem?_eq_some_iff.1 h0;exact List.mem_map.2 ⟨_,List.getElem_mem h1,by rw [h2]⟩
  | step hs _ ih=>exact tree_closed hc hp ih hs
theorem img_inj {gs:List (List Nat)} {D s x y:Nat} (hg:GG D gs) (hs:s<gs.length) (hx:x<D) (hy:y<D) (h:img gs s x=img gs s y):x=y:=by
 obtain ⟨h1,h2⟩:=hg _ (List.getElem_mem hs);rw [img_get hs (by omega),img_get hs (by omega)] at h;exact nodup_inj h1.2 (hi:=by omega) (hj:=by omega) h
theorem rc_back {gs:List (List Nat)} {D s x:Nat} {S:List Nat} (hg:GG D gs) (hn:S.Nodup) (hlt:∀ x∈S,x<D) (hc:∀ x∈S,img gs s x∈S) (hs:s<gs.length) (hx:x<D) (h:img gs s x∈S):x∈S:=by
 have hm:(S.map (img gs s)).Nodup:=by
  rw [List.Nodup,List.pairwise_map];refine List.Pairwise.imp_of_mem ?_ hn;intro a b ha hb hab e;exact hab (img_inj hg hs (hlt a ha) (hlt b hb) e)
 by_cases hin:img gs s x∈S.map (img gs s)
 ·obtain ⟨y,hy,e⟩:=List.mem_map.1 hin
  rw [← img_inj hg hs (hlt y hy) hx e];exact hy
 ·exfalso
  have:=nodup_le (List.nodup_cons.2 ⟨hin,hm⟩) (m:=S) fun z hz=>by
   rcases List.mem_cons.1 hz with rfl | hz
   ·exact h
   ·obtain ⟨y,hy,rfl⟩:=List.mem_map.1 hz
    exact hc y hy
  rw [List.length_cons,List.length_map] at this;omega
theorem Rc.lt {gs:List (List Nat)} {D p x:Nat} (hg:GG D gs) (hp:p<D) (h:Rc gs p x):x<D:=by
 induction h with
 | base=>exact hp
 | step hs _ ih=>exact hg.cl _ hs _ ih
theorem Rc.symm {gs:List (List Nat)} {D p q:Nat} (hg:GG D gs) (hp:p<D) (h:Rc gs p q):Rc gs q p:=by
 have hq:=h.lt hg hp;rw [← tree_rc hg.cl hq];have hok:=tree_ok hg.cl hq;have hq0:q∈pts (tree gs D q):=(tree_rc hg.cl hq).2 .base
 have key:∀ x,Rc gs p x→x∈pts (tree gs D q)→p∈pts (tree gs D q):=by
  intro x hx
  induction hx with
  | base=>exact id
  | step hs hx ih=>exact fun h1=>ih (rc_back hg hok.nd hok.lt (fun z hz=>tree_closed hg.cl hq hz hs) hs (hx.lt hg hp) h1)
 exact key q h hq0
end Go.Proofs.YthehbckogieimaaGreat

namespace Go.Proofs.YthehbckogieimaaGreat
open Go.RowKit
open Go.Proofs
open Go.Proofs.Ob
open Go.Proofs.Cm (Gd Gr)
attribute [local irreducible] Go.Calls Go.wpList
theorem exec_neB {o:Oper} {a:Act} {w:World} (x y:Operand) (ho:o.op=.binOp .neq 4 x y 4) {s:Bool} (hx:a.eval x=.bool s) (hy:a.eval y=.bool s):(execOp a.eval o).run Tryz.prog w=.ok (.value (.bool false)) w:=by
 unfold execOp;simp only [ho,hx,hy]
 cases s <;> kernel_rfl
theorem gg_of {D:Nat} {gs:List (List Nat)} (h:∀ s∈gs,Gd D s):GG D gs:=fun s hs=>h s hs
theorem rows_get {w:World} {a:Option Addr} {n c:Nat} {T:List (List Int)} (h:Rg.Rows w (.slice a n c) T) {i:Nat} (hi:i<T.length):∃ b o ua uc,a=some ⟨b,o,none⟩∧b<w.heap.size∧w.cell? ⟨b,o+i,none⟩=some (.slice ua T[i].length uc)∧Rg.Ints w (.slice ua T[i].length uc) T[i]:=by
 obtain ⟨a',c',e,-,-,-,hx⟩:=h.shape;simp only [Value.slice.injEq] at e;obtain ⟨rfl,rfl,rfl⟩:=e;obtain ⟨b,o,e1,e2,e3⟩:=hx (by omega);obtain ⟨u,h1,h2⟩:=e3 i hi;obtain ⟨ua,uc,e4,-⟩:=Rg.Ints.shape h2;subst e4;exact ⟨b,o,ua,uc,e1,e2,h1,h2⟩
theorem ints_get {w:World} {a:Option Addr} {n c:Nat} {l:List Int} (h:Rg.Ints w (.slice a n c) l) {k:Nat} (hk:k<l.length):∃ b o,a=some ⟨b,o,none⟩∧b<w.heap.size∧w.cell? ⟨b,o+k,none⟩=some (.int .i64 l[k]):=by
 obtain ⟨a',c',e,-,-,-,hx⟩:=h.shape;simp only [Value.slice.injEq] at e;obtain ⟨rfl,rfl,rfl⟩:=e;obtain ⟨b,o,e1,e2,e3⟩:=hx (by omega);exact ⟨b,o,e1,e2,e3 k hk⟩
variable {gs:List (List Nat)} {D:Nat} {O:List (List Int)} {cls:Nat→Nat}
end Go.Proofs.YthehbckogieimaaGreat

namespace Go.Proofs.YthehbckogieimaaGreat
open Go.Proofs
open Go.Proofs.Ob
def dep (e:En):Nat:=e.2.2.2.length
theorem putG_dep {gs:List (List Nat)} {e:En} {T:List En} {s:Nat} (h1:T.Pairwise fun a b=>dep a≤dep b) (h2:∀ x∈T,dep x≤dep e+1):(putG gs e T s).Pairwise (fun a b=>dep a≤dep b)∧∀ x∈putG gs e T s,dep x≤dep e+1:=by
 unfold putG
 split
 ·exact ⟨h1,h2⟩
 ·have hd:dep (img gs s e.1,(e.1:Int),s+1,e.2.2.2++[s+1])=dep e+1:=by simp [dep]
  refine ⟨?_,fun x hx=>?_⟩
  ·rw [List.pairwise_append]
   refine ⟨h1,List.pairwise_singleton _ _,fun a ha b hb=>?_⟩;rw [List.mem_singleton] at hb;subst hb;rw [hd]; exact h2 a ha
  ·rcases List.mem_append.1 hx with hx | hx
   ·exact h2 x hx
   ·rw [List.mem_singleton] at hx
    subst hx;rw [hd]; exact Nat.le_refl _
theorem innG_dep {gs:List (List Nat)} {e:En} {T:List En} (h1:T.Pairwise fun a b=>dep a≤dep b) (h2:∀ x∈T,dep x≤dep e+1):∀ n,(innG gs e T n).Pairwise (fun a b=>dep a≤dep b)∧∀ x∈innG gs e T n,dep x≤dep e+1
 | 0=>⟨h1,h2⟩
 | n+1=>by
  obtain ⟨a,b⟩:=innG_dep h1 h2 n;rw [innG_succ];exact putG_dep a b
theorem trI_dep (gs:List (List Nat)) (p:Nat):∀ k,(trI gs p k).Pairwise (fun a b=>dep a≤dep b)∧∀ (hk:k<(trI gs p k).length),∀ x∈trI gs p k,dep x≤dep (trI gs p k)[k]+1
 | 0=>by
  refine ⟨List.pairwise_singleton _ _,fun hk x hx=>?_⟩
  have e:x=(p,-1,0,[]):=by simpa [trI] using hx
  subst e;exact Nat.zero_le _
 | k+1=>by
  obtain ⟨h1,h2⟩:=trI_dep gs p k
  by_cases h:k<(trI gs p k).length
  ·obtain ⟨a,b⟩:=innG_dep (gs:=gs) h1 (h2 h) gs.length
   have e:=trI_some h;obtain ⟨hl,hg⟩:=innG_get (gs:=gs) (e:=(trI gs p k)[k]) (n:=gs.length) h;simp only [e];refine ⟨a,fun hk x hx=>?_⟩;have h3:=b x hx;have h4:=List.pairwise_iff_getElem.1 a k (k+1) hl hk (by omega);rw [hg] at h4;omega
  ·have e:=trI_none (show (trI gs p k).length≤k by omega)
   simp only [e];exact ⟨h1,fun hk=>by omega⟩
theorem trI_near (gs:List (List Nat)) (p:Nat):∀ k i (hi:i<(trI gs p k).length),i<k→∀ s,s<gs.length→∃ x∈trI gs p k,x.1=img gs s (trI gs p k)[i].1∧dep x≤dep (trI gs p k)[i]+1
 | 0,_,_,h=>absurd h (Nat.not_lt_zero _)
 | k+1,i,hi,hik=>by
  intro s hs
  by_cases h:k<(trI gs p k).length
  ·obtain ⟨h1,h2⟩:=trI_dep gs p k
   obtain ⟨_,b⟩:=innG_dep (gs:=gs) h1 (h2 h) gs.length;have e:=trI_some h
   have key:∃ x∈innG gs (trI gs p k)[k] (trI gs p k) gs.length,∀ hi':i<(innG gs (trI gs p k)[k] (trI gs p k) gs.length).length,x.1=img gs s (innG gs (trI gs p k)[k] (trI gs p k) gs.length)[i].1∧dep x≤dep (innG gs (trI gs p k)[k] (trI gs p k) gs.length)[i]+1:=by
    by_cases hk:i<k
    ·obtain ⟨x,hx,e1,e2⟩:=trI_near gs p k i (by omega) hk s hs
     obtain ⟨hl,hg⟩:=innG_get (gs:=gs) (e:=(trI gs p k)[k]) (n:=gs.length) (show i<(trI gs p k).length by omega);obtain ⟨r,hr⟩:=innG_pre gs (trI gs p k)[k] (trI gs p k) gs.length;exact ⟨x,by rw [hr]; exact List.mem_append_left _ hx,fun _=>by rw [hg]; exact ⟨e1,e2⟩⟩
    ·obtain rfl:i=k:=by omega
     obtain ⟨hl,hg⟩:=innG_get (gs:=gs) (e:=(trI gs p i)[i]) (n:=gs.length) h;obtain ⟨j,hj,ej⟩:=mem_idx (mem_inn (gs:=gs) (e:=(trI gs p i)[i]) (T:=trI gs p i) gs.length s hs);exact ⟨_,List.getElem_mem hj,fun _=>by rw [hg]; exact ⟨ej,b _ (List.getElem_mem hj)⟩⟩
   obtain ⟨x,hx,hh⟩:=key;have:=hh (by rw [← e]; exact hi);refine ⟨x,by rw [e]; exact hx,?_⟩;simp only [e];exact this
  ·have e:=trI_none (show (trI gs p k).length≤k by omega)
   have hi':i<(trI gs p k).length:=by rw [← e]; exact hi
   obtain ⟨x,hx,e1,e2⟩:=trI_near gs p k i hi' (by omega) s hs;refine ⟨x,by rw [e]; exact hx,?_⟩;simp only [e];exact ⟨e1,e2⟩
theorem tree_short {gs:List (List Nat)} {D p:Nat} (hc:Cl D gs) (hp:p<D):∀ (n:Nat) (u:List Nat),u.length=n→(∀ g∈u,1≤g∧g≤gs.length)→∃ x∈tree gs D p,x.1=goW gs p u∧dep x≤u.length
 | 0,u,hu,_=>by
  obtain rfl:u=[]:=List.length_eq_zero_iff.1 hu;have h0:=(tree_ok hc hp).hd;obtain ⟨h1,h2⟩:=List.getElem?_eq_some_iff.1 h0;exact ⟨_,List.getElem_mem h1,by rw [h2]; rfl,by rw [h2]; exact Nat.le_refl _⟩
 | n+1,u,hu,hg=>by
  rcases u.eq_nil_or_concat with rfl | ⟨v,g,hv⟩
  ·cases hu
  ·rw [List.concat_eq_append] at hv
   subst hv;rw [List.length_append,List.length_singleton] at hu;obtain ⟨x,hx,e1,e2⟩:=tree_short hc hp n v (by omega) (fun y hy=>hg y (List.mem_append_left _ hy));obtain ⟨i,hi,rfl⟩:=List.getElem_of_mem hx;have hlen:=(tree_ok hc hp).len;have hgg:=hg g (by simp);obtain ⟨z,hz,f1,f2⟩:=trI_near gs p D i hi (by omega) (g - 1) (by omega);refine ⟨z,hz,?_,?_⟩
   ·rw [goW_snoc,← e1]; exact f1
   ·rw [List.length_append,List.length_singleton]
    have:dep (trI gs p D)[i]≤v.length:=e2;omega
theorem wd_short {gs:List (List Nat)} {D p q:Nat} (hc:Cl D gs) (hp:p<D) (hq:q∈pts (tree gs D p)):goW gs p (wd (tree gs D p) q)=q∧(∀ g∈wd (tree gs D p) q,1≤g∧g≤gs.length)∧∀ u:List Nat,(∀ g∈u,1≤g∧g≤gs.length)→goW gs p u=q→(wd (tree gs D p) q).length≤u.length:=by
 have hok:=tree_ok hc hp;obtain ⟨i,hi,rfl⟩:=mem_idx hq;have hw:=trI_w gs p D _ (List.getElem_mem hi);rw [wd_at hok.nd hi];refine ⟨hw.1,hw.2,fun u hu e=>?_⟩;obtain ⟨x,hx,e1,e2⟩:=tree_short hc hp u.length u rfl hu;obtain ⟨j,hj,rfl⟩:=List.getElem_of_mem hx;have:j=i:=nodup_inj hok.nd (hi:=by rw [len_pts]; exact hj) (hj:=by rw [len_pts]; exact hi) (by rw [get_pts,get_pts,e1,e]);subst this;exact e2
end Go.Proofs.YthehbckogieimaaGreat

namespace Go.Proofs.YthehbckogieimaaGreat
open Go.Proofs
open Go.Proofs.Ob
open Go.Proofs.Cm (Gr IsChain IsG St Fx ap Lst allL)
theorem mem_addX {D:Nat} {out:List (List Nat)} {x z:List Nat}:z∈addX D out x↔z∈out∨(z≠Ma.oneN D∧z=x):=by
 unfold addX
 split
 ·rename_i h
  refine ⟨.inl,?_⟩
  rintro (e | ⟨e,rfl⟩)
  ·exact e
  ·exact h.resolve_left e
 ·rename_i h
  rw [List.mem_append,List.mem_singleton]
  constructor
  ·rintro (e | rfl)
   ·exact .inl e
   ·exact .inr ⟨fun e=>h (.inl e),rfl⟩
  ·rintro (e | ⟨_,e⟩)
   ·exact .inl e
   ·exact .inr e
theorem mem_stJ {gs:List (List Nat)} {D:Nat} {T:List En} {e:En} {out:List (List Nat)} {z:List Nat}:∀ m,z∈stJ gs D T e out m↔z∈out∨(z≠Ma.oneN D∧∃ s,s<m∧z=schr gs D T e s)
 | 0=>by
  show z∈out↔_;exact ⟨.inl,fun h=>h.elim id fun ⟨_,s,hs,_⟩=>absurd hs (Nat.not_lt_zero _)⟩
 | m+1=>by
  rw [stJ_succ,mem_addX,mem_stJ m]
  constructor
  ·rintro ((h | ⟨h,s,hs,e⟩) | ⟨h,e⟩)
   ·exact .inl h
   ·exact .inr ⟨h,s,by omega,e⟩
   ·exact .inr ⟨h,m,by omega,e⟩
  ·rintro (h | ⟨h,s,hs,e⟩)
   ·exact .inl (.inl h)
   ·by_cases hm:s=m
    ·subst hm; exact .inr ⟨h,e⟩
    ·exact .inl (.inr ⟨h,s,by omega,e⟩)
theorem mem_stI {gs:List (List Nat)} {D:Nat} {T:List En} {z:List Nat}:∀ k,k≤T.length→(z∈stI gs D T k↔z≠Ma.oneN D∧∃ i,∃ hi:i<T.length,i<k∧∃ s,s<gs.length∧z=schr gs D T T[i] s)
 | 0,_=>by
  show z∈[]↔_;exact ⟨fun h=>(by cases h),fun ⟨_,i,_,h,_⟩=>absurd h (Nat.not_lt_zero _)⟩
 | k+1,hk=>by
  rw [stI_succ _ _ _ _ (by omega),mem_stJ,mem_stI k (by omega)]
  constructor
  ·rintro (⟨h,i,hi,hik,r⟩ | ⟨h,s,hs,e⟩)
   ·exact ⟨h,i,hi,by omega,r⟩
   ·exact ⟨h,k,by omega,by omega,s,hs,e⟩
  ·rintro ⟨h,i,hi,hik,s,hs,e⟩
   by_cases hm:i=k
   ·subst hm; exact .inr ⟨h,s,hs,e⟩
   ·exact .inl ⟨h,i,hi,by omega,s,hs,e⟩
theorem img_ap (gs:List (List Nat)) (s x:Nat):img gs s x=ap (gs.getD s []) x:=rfl
theorem wprod_go {D:Nat} {gs:List (List Nat)} (hg:GG D gs) {x:Nat} (hx:x<D):∀ (n:Nat) (u:List Nat),u.length=n→(∀ g∈u,1≤g∧g≤gs.length)→ap (wprod gs D u) x=goW gs x u
 | 0,u,hu,_=>by
  obtain rfl:u=[]:=List.length_eq_zero_iff.1 hu;exact Cm.ap_one hx
 | n+1,u,hu,h=>by
  rcases u.eq_nil_or_concat with rfl | ⟨v,g,hv⟩
  ·cases hu
  ·rw [List.concat_eq_append] at hv
   subst hv;rw [List.length_append,List.length_singleton] at hu;have hv:=fun y hy=>h y (List.mem_append_left _ hy);rw [wprod_snoc,goW_snoc,img_ap,Cm.ap_mul (wprod_Gd hg v hv) hx,wprod_go hg hx n v (by omega) hv]
theorem wprod_gr {D:Nat} {gs:List (List Nat)}:∀ (n:Nat) (u:List Nat),u.length=n→(∀ g∈u,1≤g∧g≤gs.length)→Gr D (·∈gs) (wprod gs D u)
 | 0,u,hu,_=>by
  obtain rfl:u=[]:=List.length_eq_zero_iff.1 hu;exact .one
 | n+1,u,hu,h=>by
  rcases u.eq_nil_or_concat with rfl | ⟨v,g,hv⟩
  ·cases hu
  ·rw [List.concat_eq_append] at hv
   subst hv;rw [List.length_append,List.length_singleton] at hu;rw [wprod_snoc];have hgg:=h g (by simp);refine .mul _ _ (wprod_gr n v (by omega) (fun y hy=>h y (List.mem_append_left _ hy))) (.gen _ ?_);rw [getD_at (show g - 1<gs.length by omega)];exact List.getElem_mem _
def uq (gs:List (List Nat)) (D p q:Nat):List Nat:=wprod gs D (wd (tree gs D p) q)
structure UqOk (gs:List (List Nat)) (D p q:Nat):Prop where
 gd:Cm.Gd D (uq gs D p q)
 gr:Gr D (·∈gs) (uq gs D p q)
 at_:ap (uq gs D p q) p=q
theorem uq_ok {gs:List (List Nat)} {D p q:Nat} (hg:GG D gs) (hp:p<D) (hq:q∈pts (tree gs D p)):UqOk gs D p q:=by
 obtain ⟨h1,h2,_⟩:=wd_short hg.cl hp hq;refine ⟨wprod_Gd hg _ h2,wprod_gr _ _ rfl h2,?_⟩;unfold uq;rw [wprod_go hg hp _ _ rfl h2,h1]
theorem uq_base {gs:List (List Nat)} {D p:Nat} (hg:GG D gs) (hp:p<D):uq gs D p p=Ma.oneN D:=by
 have hok:=tree_ok hg.cl hp;have h0:=hok.hd;obtain ⟨h1,h2⟩:=List.getElem?_eq_some_iff.1 h0;have:=wd_at hok.nd h1;rw [h2] at this;unfold uq;rw [this]; rfl
theorem schr_at {gs:List (List Nat)} {D p i s:Nat} (hg:GG D gs) (hp:p<D) (hi:i<(tree gs D p).length):schr gs D (tree gs D p) (tree gs D p)[i] s=Ma.mulN (Ma.mulN (uq gs D p (tree gs D p)[i].1) (gs.getD s [])) (Ma.invN (uq gs D p (img gs s (tree gs D p)[i].1))):=by
 unfold schr uq;rw [wd_at (tree_ok hg.cl hp).nd hi]
theorem mem_stab {gs:List (List Nat)} {D p:Nat} {z:List Nat} (hg:GG D gs) (hp:p<D):z∈stab gs D p↔z≠Ma.oneN D∧∃ q,q∈pts (tree gs D p)∧∃ s,s<gs.length∧z=Ma.mulN (Ma.mulN (uq gs D p q) (gs.getD s [])) (Ma.invN (uq gs D p (img gs s q))):=by
 unfold stab;rw [mem_stI _ (Nat.le_refl _)]
 constructor
 ·rintro ⟨h,i,hi,_,s,hs,e⟩
  exact ⟨h,_,List.mem_map.2 ⟨_,List.getElem_mem hi,rfl⟩,s,hs,by rw [e,schr_at hg hp hi]⟩
 ·rintro ⟨h,q,hq,s,hs,e⟩
  obtain ⟨i,hi,rfl⟩:=mem_idx hq;exact ⟨h,i,hi,hi,s,hs,by rw [e,schr_at hg hp hi]⟩
theorem schreier {gs:List (List Nat)} {D p:Nat} (hg:GG D gs) (hp:p<D) {x:List Nat} (hx:Gr D (·∈gs) x):ap x p∈pts (tree gs D p)∧Gr D (·∈stab gs D p) (Ma.mulN x (Ma.invN (uq gs D p (ap x p)))):=by
 have hg':∀ s∈gs,Cm.Gd D s:=fun s hs=>hg s hs;refine Cm.gr_ind hg' (P:=fun x=>ap x p∈pts (tree gs D p)∧Gr D (·∈stab gs D p) (Ma.mulN x (Ma.invN (uq gs D p (ap x p))))) ?_ ?_ hx
 ·rw [Cm.ap_one hp,uq_base hg hp,Cm.inv_one,Cm.mul_one (Cm.gd_one D)]
  exact ⟨(tree_rc hg.cl hp).2 .base,.one⟩
 ·rintro x s hx ⟨h1,h2⟩ hs
  obtain ⟨i,hi,rfl⟩:=List.getElem_of_mem hs;have gx:=(Gr.isG hg').gd _ hx;have gs1:=hg' _ hs;have hq:=uq_ok hg hp h1
  have e1:ap (Ma.mulN x gs[i]) p=img gs i (ap x p):=by rw [Cm.ap_mul gx hp,img_ap,getD_at hi]
  have h3:=tree_closed hg.cl hp h1 hi;have hq3:=uq_ok hg hp h3;rw [e1];refine ⟨h3,?_⟩;have gi:=Cm.gd_inv hq3.gd
  have e2:Ma.mulN (Ma.mulN x gs[i]) (Ma.invN (uq gs D p (img gs i (ap x p))))=Ma.mulN (Ma.mulN x (Ma.invN (uq gs D p (ap x p)))) (Ma.mulN (Ma.mulN (uq gs D p (ap x p)) gs[i]) (Ma.invN (uq gs D p (img gs i (ap x p))))):=by
   rw [← Cm.mul_assoc (Cm.gd_mul gx (Cm.gd_inv hq.gd)) (Cm.gd_mul hq.gd gs1),← Cm.mul_assoc (Cm.gd_mul gx (Cm.gd_inv hq.gd)) hq.gd,Cm.mul_inv_cancel gx hq.gd]
  rw [e2];refine .mul _ _ h2 ?_
  by_cases ho:Ma.mulN (Ma.mulN (uq gs D p (ap x p)) gs[i]) (Ma.invN (uq gs D p (img gs i (ap x p))))=Ma.oneN D
  ·rw [ho]; exact .one
  ·exact .gen _ ((mem_stab hg hp).2 ⟨ho,_,h1,i,hi,by rw [getD_at hi]⟩)
end Go.Proofs.YthehbckogieimaaGreat

namespace Go.Proofs.YthehbckogieimaaGreat
open Go.RowKit
open Go.Proofs
open Go.Proofs.Ob
attribute [local irreducible] Go.Calls Go.wpList
theorem Hccl0 (args:Array Value) (w:World):(callFunc 243 args).run Tryz.prog w=.ok (.enter 243 args) w:=by kernel_rfl
theorem infoIntB:(Tryz.prog.info? 3).map (fun i=>(i.zero,i.size,i.bytes))=some (some (.int .i64 0),1,8):=by kernel_rfl
theorem slForest:Rg.SlT Tryz.prog 177 3 (.int .i64 0) 8:=⟨Tryz.underlying177,infoIntB,rfl,by decide⟩
theorem mkForest (n:Nat) (hn:n≤1000000) (w:World):(Instr.makeSlice 177 (.int .i64 (n:Int)) (.int .i64 (n:Int))).run Tryz.prog w=.ok (.slice (some ⟨w.heap.size,0,none⟩) n n) (w.alloc (.cells (madeCells #[.int .i64 0] n) 3)) :=
 run_make_row' 177 3 (.int .i64 0) 8 Tryz.underlying177 infoIntB rfl .i64 .i64 n (by omega) (by omega) w
theorem mkIntsB (n:Nat) (hn:n≤1000000) (w:World):(Instr.makeSlice 36 (.int .i64 (n:Int)) (.int .i64 (n:Int))).run Tryz.prog w=.ok (.slice (some ⟨w.heap.size,0,none⟩) n n) (w.alloc (.cells (madeCells #[.int .i64 0] n) 3)) :=
 run_make_row' 36 3 (.int .i64 0) 8 Tryz.underlying36 infoIntB rfl .i64 .i64 n (by omega) (by omega) w
theorem run_storeIntB {w:World} {b o:Nat} {u:Value} (x:Int) (h:w.cell? ⟨b,o,none⟩=some u) (f:w.frozen? ⟨b,o,none⟩=false):(storeVar 3 ⟨b,o,none⟩ (.int .i64 x)).run Tryz.prog w=.ok () (w.setCell ⟨b,o,none⟩ (.int .i64 x)):=run_storeInt x h f
theorem exec_maxE {o:Oper} {a:Act} {w:World} {u v r:Int} (x y:Operand) (tys:Array TypeId) (ho:o.op=.call { callee:=.builtin .max,args:=#[x,y],argTypes:=tys }) (hx:a.eval x=.int .i64 u) (hy:a.eval y=.int .i64 v) (hr:(if u<v then v else u)=r):(execOp a.eval o).run Tryz.prog w=.ok (.value (.int .i64 r)) w:=by
 subst hr;unfold execOp;simp [ho,hx,hy,resolve,invoke,builtin,Builtin.max_,Builtin.max2]
theorem exec_minE {o:Oper} {a:Act} {w:World} {u v r:Int} (x y:Operand) (tys:Array TypeId) (ho:o.op=.call { callee:=.builtin .min,args:=#[x,y],argTypes:=tys }) (hx:a.eval x=.int .i64 u) (hy:a.eval y=.int .i64 v) (hr:(if v<u then v else u)=r):(execOp a.eval o).run Tryz.prog w=.ok (.value (.int .i64 r)) w:=by
 subst hr;unfold execOp;simp [ho,hx,hy,resolve,invoke,builtin,Builtin.min_,Builtin.min2]
def rowN (w:World) (b n:Nat) (φ:Nat→Nat):Prop:=w.rowIs b 3 n (fun j=>.int .i64 ((φ j:Nat):Int))
theorem rowN.set {w:World} {b n:Nat} {φ:Nat→Nat} (h:rowN w b n φ) (p v:Nat):rowN (w.setCell ⟨b,p,none⟩ (.int .i64 ((v:Nat):Int))) b n (Bk.upd φ p v) :=
 (World.rowIs.set h p _).congr fun i _=>by
  by_cases e:i=p
  ·subst e; rw [if_pos rfl,Bk.upd_at]
  ·rw [if_neg e,Bk.upd_ne e]
theorem rowN.kp {M:Nat→Prop} {w w':World} {b n:Nat} {φ:Nat→Nat} (h:rowN w b n φ) (hk:Rg.Kp M w w') (hM:¬ M b):rowN w' b n φ:=rowIs_kp h hk hM
theorem rowN.cell {w:World} {b n:Nat} {φ:Nat→Nat} (h:rowN w b n φ) {j y:Nat} (hj:j<n) (e:φ j=y):w.cell? ⟨b,0+j,none⟩=some (.int .i64 ((y:Nat):Int)):=by rw [Nat.zero_add,← e]; exact World.rowIs.cell h hj
theorem rowN.fro {w:World} {b n:Nat} {φ:Nat→Nat} (h:rowN w b n φ) (j:Nat):w.frozen? ⟨b,0+j,none⟩=false:=by rw [Nat.zero_add]; exact World.rowIs.frozen h j
theorem kp_set1 {b:Nat} {w W:World} (h:Rg.Kp (fun z=>z=b) w W) (o:Nat) (v:Value):Rg.Kp (fun z=>z=b) w (W.setCell ⟨b,o,none⟩ v):=Rg.Kp.trans (M:=fun z=>z=b) h (Rg.Kp.of_setCell (M:=fun z=>z=b) (a:=⟨b,o,none⟩) (v:=v) rfl) (fun _ _ e=>e)
theorem root_any (fb n c:Nat) (φ:Nat→Nat) (p:Nat) (w:World) (hrow:rowN w fb n φ) (hfo:Bk.Fo n φ) (hp:p<n) (hn:n≤1000) (hc:n≤c) :
  Calls Tryz.prog 243 #[.slice (some ⟨fb,0,none⟩) n c,.int .i64 ((p:Nat):Int)] w fun e w'=>∃ φ',e=.returned (.int .i64 ((Bk.rt φ p:Nat):Int))∧rowN w' fb n φ'∧Bk.Same n φ φ'∧Rg.Kp (fun z=>z=fb) w w':=by
 have R0:=ι hrow;have HS:=ι (Bk.Same.refl hfo);have K0:=ι (Rg.Kp.refl (fun z=>z=fb) w);obtain ⟨r,hr⟩:∃ r,Hid (Bk.rt φ p=r):=⟨_,ι rfl⟩;rw [hr.out];clear hrow hfo
 go_enter Tryz.func243,Tryz.ntmps243
 go_wp2
 go_loopw [1] (fun v wr=>∃ (q:Nat) (φ':Nat→Nat),v=.int .i64 ((q:Nat):Int)∧q<n∧Hid (rowN wr fb n φ')∧Hid (Bk.Same n φ φ')∧Hid (Bk.rt φ q=r)∧Hid (Rg.Kp (fun z=>z=fb) w wr)) (fun v _=>(intOf v).toNat)
 case atStart=>exact ⟨p,φ,rfl,hp,R0,HS,hr,K0⟩
 case round =>
  clear R0 HS hr K0;obtain ⟨q,φ',rfl,hq,R0,HS,HR,K0⟩:=hrel;have hq1:=HS.out.fo q hq;have hq2:=HS.out.fo (φ' q) (by omega);obtain ⟨y,hy⟩:∃ y,Hid (φ' q=y):=⟨_,ι rfl⟩;rw [hy.out] at hq1 hq2;obtain ⟨z,hz⟩:∃ z,Hid (φ' y=z):=⟨_,ι rfl⟩;rw [hz.out] at hq2
  have hyn:y<n:=by omega
  have C1:=ι (R0.out.cell hq hy.out);have C2:=ι (R0.out.cell hyn hz.out);have F1:=ι (R0.out.fro q)
  by_cases hyq:y=q
  case pos =>
   subst hyq;have HP:=ι (show y=r by rw [← HR.out,← HS.out.rts y hq]; exact (Bk.rt_root hy.out).symm);go_upto_region 1 with (fail);refine wp_region_list ?_;refine Rg.lm 5 (.slice (some ⟨fb,0,none⟩) n c) ?_;go_frame;refine Rg.lm 6 (.int .i64 ((y:Nat):Int)) ?_;go_frame;refine Rg.lr 7 (exec_indexS slForest _ _ rfl fb (0) (n) c (y) rfl rfl hq) ?_;go_frame;refine Rg.lr 8 (Rg.exec_load (v:=.int .i64 ((y:Nat):Int)) _ _ rfl ⟨fb,0+y,none⟩ rfl (run_loadInt C1.out)) ?_;go_frame;refine Rg.lm 9 (.int .i64 ((y:Nat):Int)) ?_;go_frame;refine Rg.lr 10 (exec_bin (R:=.bool false) .neq _ _ _ rfl rfl rfl (b_neqB _ (decide_eq_false (fun h=>h rfl)))) ?_;go_frame;go_upto_region 4 with (fail);refine wp_region_list ?_;refine Rg.lm 25 (.int .i64 ((y:Nat):Int)) ?_;go_frame;refine Rg.la 4 (.int .i64 ((y:Nat):Int)) ?_;go_frame;go_wp2;go_ret;exact ⟨φ',by rw [HP.out]; rfl,R0.out,HS.out,K0.out⟩
  case neg =>
   have hlt:y<q:=by omega
   have HS2:=ι (HS.out.trans (Bk.halve HS.out.fo hq));rw [hy.out,hz.out] at HS2;have hrow2:=rowN.set R0.out q z
   have HR2:=ι (show Bk.rt φ z=r by
    rw [← HS.out.rts z (by omega),← hz.out,Bk.rt_step HS.out.fo hyn,← hy.out,Bk.rt_step HS.out.fo hq,HS.out.rts q hq,HR.out])
   have K2:=ι (kp_set1 K0.out q (.int .i64 ((z:Nat):Int)))
   have hzn:z<n:=by omega
   go_upto_region 1 with (fail);refine wp_region_list ?_;refine Rg.lm 5 (.slice (some ⟨fb,0,none⟩) n c) ?_;go_frame;refine Rg.lm 6 (.int .i64 ((q:Nat):Int)) ?_;go_frame;refine Rg.lr 7 (exec_indexS slForest _ _ rfl fb (0) (n) c (q) rfl rfl hq) ?_;go_frame;refine Rg.lr 8 (Rg.exec_load (v:=.int .i64 ((y:Nat):Int)) _ _ rfl ⟨fb,0+q,none⟩ rfl (run_loadInt C1.out)) ?_;go_frame;refine Rg.lm 9 (.int .i64 ((q:Nat):Int)) ?_;go_frame;refine Rg.lr 10 (exec_bin (R:=.bool true) .neq _ _ _ rfl rfl rfl (b_neqB _ (decide_eq_true (by omega)))) ?_;go_frame;go_upto_region 2 with (fail);refine wp_region_list ?_;refine Rg.lm 11 (.slice (some ⟨fb,0,none⟩) n c) ?_;go_frame;refine Rg.lm 12 (.int .i64 ((q:Nat):Int)) ?_;go_frame;refine Rg.lm 13 (.slice (some ⟨fb,0,none⟩) n c) ?_;go_frame;refine Rg.lm 14 (.slice (some ⟨fb,0,none⟩) n c) ?_;go_frame;refine Rg.lm 15 (.int .i64 ((q:Nat):Int)) ?_;go_frame
   refine Rg.lr 16 (exec_indexS slForest _ _ rfl fb (0) (n) c (q) rfl rfl hq) ?_;go_frame;refine Rg.lr 17 (Rg.exec_load (v:=.int .i64 ((y:Nat):Int)) _ _ rfl ⟨fb,0+q,none⟩ rfl (run_loadInt C1.out)) ?_;go_frame;refine Rg.lr 18 (exec_indexS slForest _ _ rfl fb (0) (n) c (y) rfl rfl hyn) ?_;go_frame;refine Rg.lr 19 (Rg.exec_load (v:=.int .i64 ((z:Nat):Int)) _ _ rfl ⟨fb,0+y,none⟩ rfl (run_loadInt C2.out)) ?_;go_frame;refine Rg.lr 20 (exec_indexS slForest _ _ rfl fb (0) (n) c (q) rfl rfl hq) ?_;go_frame;refine Rg.list_skip none rfl rfl (Rg.exec_store _ _ _ rfl _ rfl _ rfl (run_storeIntB _ C1.out F1.out)) ?_;go_frame;rw [Nat.zero_add] at F1;have hc3:(wr.setCell ⟨fb,0+q,none⟩ (.int .i64 ((z:Nat):Int))).cell? ⟨fb,0+q,none⟩=some (.int .i64 ((z:Nat):Int)):=World.cell?_setCell_same (h:=C1.out) ..;have hz0:0+q=q:=Nat.zero_add q;have R2:=ι (show rowN (wr.setCell ⟨fb,0+q,none⟩ (.int .i64 ((z:Nat):Int))) fb n (Bk.upd φ' q z) by rw [hz0]; exact hrow2)
   have K3:=ι (show Rg.Kp (fun z=>z=fb) w (wr.setCell ⟨fb,0+q,none⟩ (.int .i64 ((z:Nat):Int))) by rw [hz0]; exact K2.out);have C3:=ι hc3;generalize wr.setCell ⟨fb,0+q,none⟩ (.int .i64 ((z:Nat):Int))=w3 at *;clear hrow2 hc3 hz0 K2 R0 K0 C1 C2;go_upto_region 3 with (fail);refine wp_region_list ?_;refine Rg.lm 21 (.slice (some ⟨fb,0,none⟩) n c) ?_;go_frame;refine Rg.lm 22 (.int .i64 ((q:Nat):Int)) ?_;go_frame;refine Rg.lr 23 (exec_indexS slForest _ _ rfl fb (0) (n) c (q) rfl rfl hq) ?_;go_frame;refine Rg.lr 24 (Rg.exec_load (v:=.int .i64 ((z:Nat):Int)) _ _ rfl ⟨fb,0+q,none⟩ rfl (run_loadInt C3.out)) ?_;go_frame;refine Rg.la 1 (.int .i64 ((z:Nat):Int)) ?_;go_frame;go_wp2
   go_roundw
   case rel=>exact ⟨z,_,rfl,hzn,R2,HS2,HR2,K3⟩
   case measure=>simp [intOf]; omega
theorem unite_any (fb n c:Nat) (φ:Nat→Nat) (a b:Nat) (w:World) (hrow:rowN w fb n φ) (hfo:Bk.Fo n φ) (ha:a<n) (hb:b<n) (hn:n≤1000) (hc:n≤c) :
  Calls Tryz.prog 168 #[.slice (some ⟨fb,0,none⟩) n c,.int .i64 ((a:Nat):Int),.int .i64 ((b:Nat):Int)] w fun e w'=>∃ φ' r,e=.returned (.bool r)∧rowN w' fb n φ'∧Bk.Uni n φ φ' a b r∧Rg.Kp (fun z=>z=fb) w w':=by
 have R0:=ι hrow;have HF:=ι hfo;have hla:=Bk.rt_le hfo a ha;have hlb:=Bk.rt_le hfo b hb;obtain ⟨x,hx⟩:∃ x,Hid (Bk.rt φ a=x):=⟨_,ι rfl⟩;obtain ⟨y,hy⟩:∃ y,Hid (Bk.rt φ b=y):=⟨_,ι rfl⟩;rw [hx.out] at hla;rw [hy.out] at hlb
 have hxn:x<n:=by omega
 have hyn:y<n:=by omega
 clear hrow hfo
 go_enter Tryz.func168,Tryz.ntmps168
 go_upto_region 0 with (fail);refine wp_region_list ?_;refine Rg.la 6 (.bool false) ?_;go_frame;go_upto_region 1 with (fail);refine wp_region_list ?_;refine Rg.lm 7 (.slice (some ⟨fb,0,none⟩) n c) ?_;go_frame;refine Rg.lm 8 (.int .i64 ((a:Nat):Int)) ?_;go_frame;refine list_ask (some 9) rfl rfl _ _ (exec_fn 243 _ _ _ rfl rfl rfl (Hccl0 _ _)) ?_;refine (root_any fb n c φ a w R0.out HF.out ha hn hc).mono ?_;rintro e1 w1 ⟨φ1,rfl,h1,h2,h3⟩;rw [hx.out];have R1:=ι h1;have S1:=ι h2;have K1:=ι h3;have h3b:=h3;clear h1 h2 h3;refine ⟨_,rfl,?_⟩;go_frame;clear h3b;refine Rg.lm 10 (.slice (some ⟨fb,0,none⟩) n c) ?_;go_frame;refine Rg.lm 11 (.int .i64 ((b:Nat):Int)) ?_;go_frame;refine list_ask (some 12) rfl rfl _ _ (exec_fn 243 _ _ _ rfl rfl rfl (Hccl0 _ _)) ?_;refine (root_any fb n c φ1 b w1 R1.out S1.out.fo hb hn hc).mono ?_;rintro e1 w2 ⟨φ2,rfl,h1,h2,h3⟩;rw [S1.out.rts b hb,hy.out]
 have R2:=ι h1;have S2:=ι (S1.out.trans h2);have K2:=ι (Rg.Kp.trans (M:=fun z=>z=fb) K1.out h3 (fun _ _ e=>e));have h3b:=h3;clear h1 h2 h3 R1 S1 K1;refine ⟨_,rfl,?_⟩;go_frame;clear h3b;refine Rg.la 1 (.int .i64 ((x:Nat):Int)) ?_;go_frame;refine Rg.la 2 (.int .i64 ((y:Nat):Int)) ?_;go_frame;have HX2:=ι (show Bk.rt φ2 a=x by rw [S2.out.rts a ha,hx.out]);have HY2:=ι (show Bk.rt φ2 b=y by rw [S2.out.rts b hb,hy.out])
 rcases Nat.lt_trichotomy y x with hxy | hxy | hxy
 case inl =>
  skip
  have C1:=ι (R2.out.cell hxn rfl);have F1:=ι (R2.out.fro x);have hrow:=rowN.set R2.out x y;have hu:=Bk.Uni.link1 (a:=a) (b:=b) S2.out.fo ha hb (by rw [HX2.out,HY2.out]; exact hxy);rw [HX2.out,HY2.out] at hu;have HU:=ι (hu.before S2.out ha hb);have K3:=ι (kp_set1 K2.out (0+x) (.int .i64 ((y:Nat):Int)));have hz0:0+x=x:=Nat.zero_add _;have R3:=ι (show rowN (w2.setCell ⟨fb,0+x,none⟩ (.int .i64 ((y:Nat):Int))) fb n (Bk.upd φ2 x y) by rw [hz0]; exact hrow);clear hrow hu hz0;go_upto_region 2 with (fail);refine wp_region_list ?_;refine Rg.lm 13 (.int .i64 ((x:Nat):Int)) ?_;go_frame;refine Rg.lm 14 (.int .i64 ((y:Nat):Int)) ?_;go_frame;refine Rg.lr 15 (exec_bin (R:=.bool false) .eql _ _ _ rfl rfl rfl (b_eql _ (decide_eq_false (by omega)))) ?_;go_frame;go_upto_region 4 with (fail);refine wp_region_list ?_;refine Rg.lm 16 (.slice (some ⟨fb,0,none⟩) n c) ?_;go_frame
  refine Rg.lm 17 (.int .i64 ((x:Nat):Int)) ?_;go_frame;refine Rg.lm 18 (.int .i64 ((y:Nat):Int)) ?_;go_frame;refine Rg.lr 19 (exec_maxE (r:=((x:Nat):Int)) _ _ _ rfl rfl rfl (by split <;> omega)) ?_;go_frame;refine Rg.lm 20 (.int .i64 ((x:Nat):Int)) ?_;go_frame;refine Rg.lm 21 (.int .i64 ((y:Nat):Int)) ?_;go_frame;refine Rg.lr 22 (exec_minE (r:=((y:Nat):Int)) _ _ _ rfl rfl rfl (by split <;> omega)) ?_;go_frame;refine Rg.lr 23 (exec_indexS slForest _ _ rfl fb (0) (n) c (x) rfl rfl hxn) ?_;go_frame;refine Rg.list_skip none rfl rfl (Rg.exec_store _ _ _ rfl _ rfl _ rfl (run_storeIntB _ C1.out F1.out)) ?_;go_frame;go_upto_region 5 with (fail);refine wp_region_list ?_;refine Rg.la 6 (.bool true) ?_;go_frame;go_wp2;go_ret;exact ⟨_,true,rfl,R3.out,HU.out,K3.out⟩
 case inr.inl =>
  subst hxy;have HU:=ι (Bk.Uni.same S2.out ha hb (by rw [hx.out,hy.out]));go_upto_region 2 with (fail);refine wp_region_list ?_;refine Rg.lm 13 (.int .i64 ((y:Nat):Int)) ?_;go_frame;refine Rg.lm 14 (.int .i64 ((y:Nat):Int)) ?_;go_frame;refine Rg.lr 15 (exec_bin (R:=.bool true) .eql _ _ _ rfl rfl rfl (b_eql _ (decide_eq_true rfl))) ?_;go_frame;go_upto_region 3 with (fail);refine wp_region_list ?_;refine Rg.la 6 (.bool false) ?_;go_frame;go_wp2;go_ret;exact ⟨_,false,rfl,R2.out,HU.out,K2.out⟩
 case inr.inr =>
  skip
  have C1:=ι (R2.out.cell hyn rfl);have F1:=ι (R2.out.fro y);have hrow:=rowN.set R2.out y x;have hu:=Bk.Uni.link1 (a:=b) (b:=a) S2.out.fo hb ha (by rw [HX2.out,HY2.out]; exact hxy);rw [HX2.out,HY2.out] at hu;have HU:=ι ((hu.before S2.out hb ha).flip);have K3:=ι (kp_set1 K2.out (0+y) (.int .i64 ((x:Nat):Int)));have hz0:0+y=y:=Nat.zero_add _;have R3:=ι (show rowN (w2.setCell ⟨fb,0+y,none⟩ (.int .i64 ((x:Nat):Int))) fb n (Bk.upd φ2 y x) by rw [hz0]; exact hrow);clear hrow hu hz0;go_upto_region 2 with (fail);refine wp_region_list ?_;refine Rg.lm 13 (.int .i64 ((x:Nat):Int)) ?_;go_frame;refine Rg.lm 14 (.int .i64 ((y:Nat):Int)) ?_;go_frame;refine Rg.lr 15 (exec_bin (R:=.bool false) .eql _ _ _ rfl rfl rfl (b_eql _ (decide_eq_false (by omega)))) ?_;go_frame;go_upto_region 4 with (fail);refine wp_region_list ?_;refine Rg.lm 16 (.slice (some ⟨fb,0,none⟩) n c) ?_;go_frame
  refine Rg.lm 17 (.int .i64 ((x:Nat):Int)) ?_;go_frame;refine Rg.lm 18 (.int .i64 ((y:Nat):Int)) ?_;go_frame;refine Rg.lr 19 (exec_maxE (r:=((y:Nat):Int)) _ _ _ rfl rfl rfl (by split <;> omega)) ?_;go_frame;refine Rg.lm 20 (.int .i64 ((x:Nat):Int)) ?_;go_frame;refine Rg.lm 21 (.int .i64 ((y:Nat):Int)) ?_;go_frame;refine Rg.lr 22 (exec_minE (r:=((x:Nat):Int)) _ _ _ rfl rfl rfl (by split <;> omega)) ?_;go_frame;refine Rg.lr 23 (exec_indexS slForest _ _ rfl fb (0) (n) c (y) rfl rfl hyn) ?_;go_frame;refine Rg.list_skip none rfl rfl (Rg.exec_store _ _ _ rfl _ rfl _ rfl (run_storeIntB _ C1.out F1.out)) ?_;go_frame;go_upto_region 5 with (fail);refine wp_region_list ?_;refine Rg.la 6 (.bool true) ?_;go_frame;go_wp2;go_ret;exact ⟨_,true,rfl,R3.out,HU.out,K3.out⟩
theorem newForest_any (n:Nat) (w:World) (hn:n≤1000) :
  Calls Tryz.prog 167 #[.int .i64 ((n:Nat):Int)] w fun e w'=>∃ fb φ,e=.returned (.slice (some ⟨fb,0,none⟩) n n)∧w.heap.size≤fb∧fb<w'.heap.size∧rowN w' fb n φ∧(∀ i,i<n→φ i=i)∧Below w.heap.size w w':=by
 have hmk:=mkForest n (by omega) w;have hrow:=ι (World.rowIs_made w (.int .i64 0) n 3)
 go_enter Tryz.func167,Tryz.ntmps167
 go_wp2
 go_loopw [9] (fun i wr=>∃ k:Nat,k≤n∧i=.int .i64 k∧Hid (rowN wr w.heap.size n (fun j=>if j<k then j else 0))∧Hid (w.heap.size<wr.heap.size)∧Hid (Below w.heap.size w wr)) (fun i _=>n - (intOf i).toNat)
 case atStart=>exact ⟨0,by omega,rfl,ι (hrow.out.congr (fun i hi=>by simp)),ι (by simp),ι ((Below.refl _ _).alloc (Nat.le_refl _) _)⟩
 case round =>
  obtain ⟨k,hk,rfl,hs,hlt0,hbel⟩:=hrel
  by_cases hlt:k<n
  ·have c1:wr.cell? ⟨w.heap.size,k,none⟩=some (.int .i64 (((if k<k then k else 0:Nat)):Int)):=World.rowIs.cell hs.out hlt
   have f1:wr.frozen? ⟨w.heap.size,k,none⟩=false:=World.rowIs.frozen hs.out k;simp only [Nat.lt_irrefl,if_false] at c1;have hrow2:=rowN.set hs.out k k
   have R2:=ι (World.rowIs.congr hrow2 (g:=fun j=>.int .i64 (((if j<k+1 then j else 0:Nat)):Int)) (fun i _=>by
    show Value.int .i64 ((Bk.upd _ k k i:Nat):Int)=_;unfold Bk.upd
    by_cases e:i=k
    ·subst e; simp
    ·rw [if_neg e]
     dsimp only
     by_cases e2:i<k
     ·rw [if_pos e2,if_pos (by omega)]
     ·rw [if_neg e2,if_neg (by omega)]))
   have HB2:=ι (hbel.out.setCell (p:=⟨w.heap.size,k,none⟩) (Nat.le_refl _) (.int .i64 ((k:Nat):Int)));have HL2:=ι (show w.heap.size<(wr.setCell ⟨w.heap.size,k,none⟩ (.int .i64 ((k:Nat):Int))).heap.size by simpa using hlt0.out);clear hrow2;go_wp2
   go_roundw
   case rel=>exact ⟨k+1,by omega,by go_num,R2,HL2,HB2⟩
   case measure=>simp [intOf]; omega
  ·obtain rfl:k=n:=by omega
   go_wp2;go_ret;exact ⟨_,_,rfl,Nat.le_refl _,hlt0.out,hs.out,fun i hi=>if_pos hi,hbel.out⟩
theorem ifL_push (L:List Nat) (x:Nat) (j:Nat):(if j=L.length then x else if j<L.length then L.getD j 0 else 0)=if j<(L++[x]).length then (L++[x]).getD j 0 else 0:=by
 rw [List.length_append,List.length_singleton]
 by_cases e:j=L.length
 ·subst e; rw [if_pos rfl,if_pos (by omega),Bk.getD_last]
 ·rw [if_neg e]
  by_cases e2:j<L.length
  ·rw [if_pos e2,if_pos (by omega),Bk.getD_snoc e2]
  ·rw [if_neg e2,if_neg (by omega)]
structure LbM (w:World) (fb ob n:Nat) (φ:Nat→Nat) (W:World) (φ':Nat→Nat) (L:List Nat):Prop where
 f:rowN W fb n φ'
 o:rowN W ob n (fun j=>if j<L.length then L.getD j 0 else 0)
 s:Bk.Same n φ φ'
 lb:Bk.LbI n φ' L
 k:Rg.Kp (fun z=>z=fb) w W
 lo:w.heap.size≤ob
theorem LbM.root {w:World} {fb ob n:Nat} {φ:Nat→Nat} {W W':World} {φ' φ2:Nat→Nat} {L:List Nat} (h:LbM w fb ob n φ W φ' L) (hl:L.length≤n) (hne:ob≠fb) (h1:rowN W' fb n φ2) (h2:Bk.Same n φ' φ2) (h3:Rg.Kp (fun z=>z=fb) W W'):LbM w fb ob n φ W' φ2 L :=
 ⟨h1,h.o.kp h3 hne,h.s.trans h2,h.lb.same h2 hl,Rg.Kp.trans (M:=fun z=>z=fb) h.k h3 (fun _ _ e=>e),h.lo⟩
theorem LbM.put {w:World} {fb ob n:Nat} {φ:Nat→Nat} {W:World} {φ':Nat→Nat} {L:List Nat} {x:Nat} (h:LbM w fb ob n φ W φ' L) (hne:ob≠fb) (hx:Bk.LbI n φ' (L++[x])):LbM w fb ob n φ (W.setCell ⟨ob,L.length,none⟩ (.int .i64 ((x:Nat):Int))) φ' (L++[x]):=by
 have hk:Rg.Kp (fun z=>z=ob) W (W.setCell ⟨ob,L.length,none⟩ (.int .i64 ((x:Nat):Int))):=Rg.Kp.of_setCell rfl;refine ⟨h.f.kp hk (fun e=>hne e.symm),?_,h.s,hx,Rg.Kp.trans (M:=fun z=>z=fb) h.k hk (fun k hk' e=>by have:=h.lo; omega),h.lo⟩
 exact World.rowIs.congr (rowN.set h.o L.length x) (fun i _=>by
  show Value.int .i64 ((Bk.upd _ _ _ i:Nat):Int)=_;unfold Bk.upd
  rw [ifL_push])
theorem labels_any (fb n c:Nat) (φ:Nat→Nat) (w:World) (hrow:rowN w fb n φ) (hfo:Bk.Fo n φ) (hfb:fb<w.heap.size) (hn:n≤1000) (hc:n≤c) :
  Calls Tryz.prog 170 #[.slice (some ⟨fb,0,none⟩) n c] w fun e w'=>∃ ob L,e=.returned (.slice (some ⟨ob,0,none⟩) n n)∧w.heap.size≤ob∧ob<w'.heap.size∧rowN w' ob n (fun j=>L.getD j 0)∧Bk.IsLab n (fun i j=>Bk.rt φ i=Bk.rt φ j) L∧Rg.Kp (fun z=>z=fb) w w':=by
 have hmk:=mkIntsB n (by omega) w;have hb0:Below w.heap.size w (w.alloc (.cells (madeCells #[.int .i64 0] n) 3)):=(Below.refl _ _).alloc (Nat.le_refl _) _;have hro:rowN (w.alloc (.cells (madeCells #[.int .i64 0] n) 3)) w.heap.size n (fun j=>if j<([]:List Nat).length then ([]:List Nat).getD j 0 else 0):=(World.rowIs_made w (.int .i64 0) n 3).congr (fun i _=>by simp);have hkp:Rg.Kp (fun z=>z=fb) w (w.alloc (.cells (madeCells #[.int .i64 0] n) 3)):=(Rg.Kp.of_below hb0).weak fun _=>False.elim;have LM:=ι (show LbM w fb w.heap.size n φ (w.alloc (.cells (madeCells #[.int .i64 0] n) 3)) φ [] from ⟨hrow.kp (Rg.Kp.of_below hb0 (M:=fun _=>False)) id,hro,Bk.Same.refl hfo,Bk.LbI.start φ,hkp,Nat.le_refl _⟩);have HNE:=ι (show w.heap.size≠fb by omega);have HFB:=ι hfb;have HMK:=ι hmk;clear hb0 hro hkp hrow hfo hmk
 go_enter Tryz.func170,Tryz.ntmps170
 have hmk:=HMK.out;go_wp2;clear hmk HMK;generalize w.alloc (.cells (madeCells #[.int .i64 0] n) 3)=w0 at *
 go_loopw [4,12] (fun mv iv wr=>∃ (φ':Nat→Nat) (L:List Nat) (i m:Nat),iv=.int .i64 ((i:Nat):Int)∧mv=.int .i64 ((m:Nat):Int)∧i≤n∧Hid (L.length=i∧Bk.mny L 0=m)∧Hid (LbM w fb w.heap.size n φ wr φ' L)) (fun _ iv _=>n - (intOf iv).toNat)
 case atStart=>exact ⟨φ,[],0,0,rfl,rfl,Nat.zero_le _,ι ⟨rfl,rfl⟩,LM⟩
 case round =>
  clear LM;obtain ⟨φ',L,i,m,rfl,rfl,hi,HL,LM⟩:=hrel
  by_cases hin:i<n
  case neg =>
   obtain rfl:i=n:=by omega
   go_wp2;go_ret;refine ⟨_,L,rfl,LM.out.lo,?_,LM.out.o.congr (fun j hj=>by dsimp only; rw [HL.out.1,if_pos hj]),(LM.out.lb.lab HL.out.1 fun a b ha hb=>?_),LM.out.k⟩
   ·obtain ⟨c',h1,_⟩:=LM.out.o
    exact (Array.getElem?_eq_some_iff.1 h1).1
   ·rw [LM.out.s.rts a ha,LM.out.s.rts b hb]
  case pos =>
   have hil:L.length<n:=by rw [HL.out.1]; exact hin
   have hle:=Bk.rt_le LM.out.s.fo i hin;obtain ⟨r,hr⟩:∃ r,Hid (Bk.rt φ' i=r):=⟨_,ι rfl⟩;rw [hr.out] at hle;go_upto_region 4 with (fail);refine wp_region_list ?_;refine Rg.lr 13 (exec_bin (R:=.bool true) .lss _ _ _ rfl rfl rfl (b_lss _ (decide_eq_true (by omega)))) ?_;go_frame;go_upto_region 5 with (fail);refine wp_region_list ?_;refine Rg.lm 14 (.int .i64 ((i:Nat):Int)) ?_;go_frame;refine Rg.la 5 (.int .i64 ((i:Nat):Int)) ?_;go_frame;go_upto_region 6 with (fail);refine wp_region_list ?_;refine Rg.lm 15 (.slice (some ⟨fb,0,none⟩) n c) ?_;go_frame;refine Rg.lm 16 (.int .i64 ((i:Nat):Int)) ?_;go_frame;refine list_ask (some 17) rfl rfl _ _ (exec_fn 243 _ _ _ rfl rfl rfl (Hccl0 _ _)) ?_;refine (root_any fb n c φ' i wr LM.out.f LM.out.s.fo hin hn hc).mono ?_;rintro e1 w1 ⟨φ1,rfl,h1,h2,h3⟩;rw [hr.out];have L1:=ι (LM.out.root (Nat.le_of_lt hil) HNE.out h1 h2 h3);have HRR:=ι (show Bk.rt φ1 L.length=r by rw [HL.out.1,h2.rts i hin,hr.out])
   have h3b:=h3;clear h1 h2 h3 LM;refine ⟨_,rfl,?_⟩;go_frame;clear h3b;refine Rg.la 6 (.int .i64 ((r:Nat):Int)) ?_;go_frame;have C1:=ι (L1.out.o.cell hin rfl);have F1:=ι (L1.out.o.fro i)
   by_cases hri:r=i
   case pos =>
    subst hri;obtain ⟨q1,q2⟩:=Bk.LbI.new L1.out.s.fo L1.out.lb hil (by rw [HRR.out,HL.out.1]);rw [HL.out.2] at q1 q2;have L2:=L1.out.put HNE.out q1;rw [HL.out.1] at L2;have LM2:=ι (show LbM w fb w.heap.size n φ (w1.setCell ⟨w.heap.size,0+r,none⟩ (.int .i64 ((m:Nat):Int))) φ1 (L++[m]) by rw [Nat.zero_add]; exact L2);have HL2:=ι (show (L++[m]).length=r+1∧Bk.mny (L++[m]) 0=m+1 from ⟨by rw [List.length_append,HL.out.1]; rfl,q2⟩)
    have hm:m≤n:=by
     have h1:=Bk.mny_le L 0;have:=HL.out;omega
    clear L2 q1 q2 HRR;go_upto_region 7 with (fail);refine wp_region_list ?_;refine Rg.lm 18 (.int .i64 ((r:Nat):Int)) ?_;go_frame;refine Rg.lm 19 (.int .i64 ((r:Nat):Int)) ?_;go_frame;refine Rg.lr 20 (exec_bin (R:=.bool true) .eql _ _ _ rfl rfl rfl (b_eql _ (decide_eq_true rfl))) ?_;go_frame;go_upto_region 8 with (fail);refine wp_region_list ?_;refine Rg.lm 21 (.slice (some ⟨w.heap.size,0,none⟩) n n) ?_;go_frame;refine Rg.lm 22 (.int .i64 ((r:Nat):Int)) ?_;go_frame;refine Rg.lm 23 (.int .i64 ((m:Nat):Int)) ?_;go_frame;refine Rg.lr 24 (exec_indexS slInts _ _ rfl w.heap.size (0) (n) n (r) rfl rfl hin) ?_;go_frame;refine Rg.list_skip none rfl rfl (Rg.exec_store _ _ _ rfl _ rfl _ rfl (run_storeIntB _ C1.out F1.out)) ?_;go_frame;go_upto_region 9 with (fail);refine wp_region_list ?_;refine Rg.lm 25 (.int .i64 ((m:Nat):Int)) ?_;go_frame;refine Rg.lr 26 (exec_bin (R:=.int .i64 (((m+1):Nat):Int)) .add _ _ _ rfl rfl rfl (b_add _ (by omega) (by omega))) ?_;go_frame
    refine Rg.la 4 (.int .i64 (((m+1):Nat):Int)) ?_;go_frame;go_upto_region 11 with (fail);refine wp_region_list ?_;refine Rg.lr 34 (exec_bin (R:=.int .i64 (((r+1):Nat):Int)) .add _ _ _ rfl rfl rfl (b_add _ (by omega) (by omega))) ?_;go_frame;refine Rg.lm 12 (.int .i64 (((r+1):Nat):Int)) ?_;go_frame;go_wp2
    go_roundw
    case rel=>exact ⟨φ1,L++[m],r+1,m+1,rfl,rfl,by omega,HL2,LM2⟩
    case measure=>simp [intOf]; omega
   case neg =>
    have hrl:r<L.length:=by rw [HL.out.1]; omega
    have hrn:r<n:=by omega
    obtain ⟨x,hx⟩:∃ x,Hid (L.getD r 0=x):=⟨_,ι rfl⟩;have C2:=ι (L1.out.o.cell (y:=x) hrn (by show (if r<L.length then L.getD r 0 else 0)=x; rw [if_pos hrl,hx.out]));obtain ⟨q1,q2⟩:=Bk.LbI.old L1.out.s.fo L1.out.lb hil (by rw [HRR.out]; exact hrl);rw [HRR.out,hx.out] at q1 q2;rw [HL.out.2] at q2;have L2:=L1.out.put HNE.out q1;rw [HL.out.1] at L2;have LM2:=ι (show LbM w fb w.heap.size n φ (w1.setCell ⟨w.heap.size,0+i,none⟩ (.int .i64 ((x:Nat):Int))) φ1 (L++[x]) by rw [Nat.zero_add]; exact L2);have HL2:=ι (show (L++[x]).length=i+1∧Bk.mny (L++[x]) 0=m from ⟨by rw [List.length_append,HL.out.1]; rfl,q2⟩);clear L2 q1 q2 HRR hx;go_upto_region 7 with (fail);refine wp_region_list ?_;refine Rg.lm 18 (.int .i64 ((r:Nat):Int)) ?_;go_frame;refine Rg.lm 19 (.int .i64 ((i:Nat):Int)) ?_;go_frame;refine Rg.lr 20 (exec_bin (R:=.bool false) .eql _ _ _ rfl rfl rfl (b_eql _ (decide_eq_false (by omega)))) ?_;go_frame
    go_upto_region 10 with (fail);refine wp_region_list ?_;refine Rg.lm 27 (.slice (some ⟨w.heap.size,0,none⟩) n n) ?_;go_frame;refine Rg.lm 28 (.int .i64 ((i:Nat):Int)) ?_;go_frame;refine Rg.lm 29 (.slice (some ⟨w.heap.size,0,none⟩) n n) ?_;go_frame;refine Rg.lm 30 (.int .i64 ((r:Nat):Int)) ?_;go_frame;refine Rg.lr 31 (exec_indexS slInts _ _ rfl w.heap.size (0) (n) n (r) rfl rfl hrn) ?_;go_frame;refine Rg.lr 32 (Rg.exec_load (v:=.int .i64 ((x:Nat):Int)) _ _ rfl ⟨w.heap.size,0+r,none⟩ rfl (run_loadInt C2.out)) ?_;go_frame;refine Rg.lr 33 (exec_indexS slInts _ _ rfl w.heap.size (0) (n) n (i) rfl rfl hin) ?_;go_frame;refine Rg.list_skip none rfl rfl (Rg.exec_store _ _ _ rfl _ rfl _ rfl (run_storeIntB _ C1.out F1.out)) ?_;go_frame;go_upto_region 11 with (fail);refine wp_region_list ?_;refine Rg.lr 34 (exec_bin (R:=.int .i64 (((i+1):Nat):Int)) .add _ _ _ rfl rfl rfl (b_add _ (by omega) (by omega))) ?_;go_frame
    refine Rg.lm 12 (.int .i64 (((i+1):Nat):Int)) ?_;go_frame;go_wp2
    go_roundw
    case rel=>exact ⟨φ1,L++[x],i+1,m,rfl,rfl,by omega,HL2,LM2⟩
    case measure=>simp [intOf]; omega
end Go.Proofs.YthehbckogieimaaGreat

namespace Go.Proofs.YthehbckogieimaaGreat
open Go.RowKit
open Go.Proofs
open Go.Proofs.Ob
attribute [local irreducible] Go.Calls
theorem infoPr:(Tryz.prog.info? 108).map (fun i=>(i.zero,i.size,i.bytes))=some (some (.agg #[.int .i64 0,.int .i64 0]),2,16):=by kernel_rfl
theorem szPr:(Tryz.prog.info? 108).map (·.size)=some 2:=by kernel_rfl
def flat2 (T:List (Nat × Nat)):List Value:=T.flatMap fun z=>[.int .i64 ((z.1:Nat):Int),.int .i64 ((z.2:Nat):Int)]
theorem flat2_snoc (T:List (Nat × Nat)) (z:Nat × Nat):flat2 (T++[z])=flat2 T++[.int .i64 ((z.1:Nat):Int),.int .i64 ((z.2:Nat):Int)]:=by unfold flat2; rw [List.flatMap_append]; simp
theorem len_flat2 (T:List (Nat × Nat)):(flat2 T).length=T.length*2:=by
 induction T with
 | nil=>rfl
 | cons z T ih =>
  have h:flat2 (z :: T)=[.int .i64 ((z.1:Nat):Int),.int .i64 ((z.2:Nat):Int)]++flat2 T:=rfl;rw [h,List.length_append,ih,List.length_cons];simp; omega
theorem flat2_at (T:List (Nat × Nat)):∀ (i:Nat) (h:i<T.length),(flat2 T)[i*2]?=some (.int .i64 ((T[i].1:Nat):Int))∧(flat2 T)[i*2+1]?=some (.int .i64 ((T[i].2:Nat):Int)):=by
 induction T with
 | nil=>intro i h; cases h
 | cons z T ih =>
  intro i h;have e:flat2 (z :: T)=[.int .i64 ((z.1:Nat):Int),.int .i64 ((z.2:Nat):Int)]++flat2 T:=rfl
  cases i with
  | zero=>rw [e]; exact ⟨rfl,rfl⟩
  | succ i =>
   have:=ih i (by simpa using h);rw [e,List.getElem?_append_right (by simp; omega),List.getElem?_append_right (by simp; omega)]
   have e1:(i+1)*2 - [Value.int .i64 ((z.1:Nat):Int),.int .i64 ((z.2:Nat):Int)].length=i*2:=by simp; omega
   have e2:(i+1)*2+1 - [Value.int .i64 ((z.1:Nat):Int),.int .i64 ((z.2:Nat):Int)].length=i*2+1:=by simp; omega
   rw [e1,e2];exact this
structure Prs (w:World) (v:Value) (T:List (Nat × Nat)):Prop where
 sh:∃ a c,v=.slice a T.length c∧T.length≤c∧T.length≤1000000000∧(0<T.length→∃ b o,a=some ⟨b,o,none⟩∧b<w.heap.size∧∀ i (h:i<T.length),w.cell? ⟨b,o+i*2,none⟩=some (.int .i64 ((T[i].1:Nat):Int))∧w.cell? ⟨b,o+i*2+1,none⟩=some (.int .i64 ((T[i].2:Nat):Int)))
theorem Prs.below {w w':World} {v:Value} {T:List (Nat × Nat)} (h:Prs w v T) (hb:Below w.heap.size w w'):Prs w' v T:=by
 obtain ⟨a,c,h1,h2,h3,h4⟩:=h.sh;refine ⟨a,c,h1,h2,h3,fun h0=>?_⟩;obtain ⟨b,o,e1,e2,e3⟩:=h4 h0;exact ⟨b,o,e1,Nat.lt_of_lt_of_le e2 hb.size,fun i hi=>⟨(hb.cell (p:=⟨b,o+i*2,none⟩) e2).trans (e3 i hi).1,(hb.cell (p:=⟨b,o+i*2+1,none⟩) e2).trans (e3 i hi).2⟩⟩
theorem Prs.nil (w:World):Prs w (.slice none 0 0) []:=⟨none,0,rfl,Nat.le_refl _,Nat.zero_le _,fun h=>absurd h (Nat.not_lt_zero _)⟩
def Own2 (B:Nat) (w:World) (v:Value) (T:List (Nat × Nat)):Prop:=w.ownsRow B 108 2 v T.length (flat2 T)
theorem Own2.nil (B:Nat) (w:World):Own2 B w (.slice none 0 0) []:=World.ownsRow_nil _ _ _ _
theorem Own2.shape {B:Nat} {w:World} {v:Value} {T:List (Nat × Nat)} (h:Own2 B w v T):∃ a c,v=.slice a T.length c∧T.length≤c:=by
 obtain ⟨_,h2⟩:=h
 rcases h2 with ⟨h3,h4⟩ | ⟨g,cap,cur,h3,_,_,h5,_⟩
 ·exact ⟨none,0,by rw [h3,h4],by omega⟩
 ·exact ⟨_,cap,h3,h5⟩
theorem Own2.lt {B:Nat} {w:World} {v:Value} {T:List (Nat × Nat)} (h:Own2 B w v T):∀ k,v.ownBlock=some k→B≤k∧k<w.heap.size:=fun k e=>World.ownsRow.lt h k e
theorem Own2.kp {M:Nat→Prop} {B:Nat} {w w':World} {v:Value} {T:List (Nat × Nat)} (h:Own2 B w v T) (hk:Rg.Kp M w w') (hM:∀ k,M k→v.ownBlock≠some k):Own2 B w' v T:=rowKp h hk hM
theorem Own2.at {B:Nat} {w:World} {v:Value} {T:List (Nat × Nat)} (h:Own2 B w v T) {i:Nat} (hi:i<T.length):∃ g c,v=.slice (some ⟨g,0,none⟩) T.length c∧g<w.heap.size∧T.length≤c∧w.cell? ⟨g,i*2,none⟩=some (.int .i64 ((T[i].1:Nat):Int))∧w.cell? ⟨g,i*2+1,none⟩=some (.int .i64 ((T[i].2:Nat):Int)):=by
 obtain ⟨h1,h2⟩:=h
 rcases h2 with ⟨h3,h4⟩ | ⟨g,cap,cur,h3,hB,hc,h5,h6,h7,h8⟩
 ·omega
 ·have hl:cur.toList.take (T.length*2)=flat2 T:=h8
  obtain ⟨q1,q2⟩:=flat2_at T i hi;refine ⟨g,cap,h3,(Array.getElem?_eq_some_iff.1 hc).1,h5,?_,?_⟩
  ·rw [cell_of_row w _ _ _ _ _ hc,← Array.getElem?_toList,← q1,← hl,List.getElem?_take_of_lt (by omega)]
  ·rw [cell_of_row w _ _ _ _ _ hc,← Array.getElem?_toList,← q2,← hl,List.getElem?_take_of_lt (by omega)]
theorem Own2.prs {B:Nat} {w:World} {v:Value} {T:List (Nat × Nat)} (h:Own2 B w v T) (hl:T.length≤1000000000):Prs w v T:=by
 obtain ⟨a,c,hs,hc⟩:=h.shape;refine ⟨a,c,hs,hc,hl,fun h0=>?_⟩;obtain ⟨g,c',e,hg,_⟩:=h.at h0;rw [hs] at e;simp only [Value.slice.injEq,true_and] at e;obtain ⟨rfl,rfl⟩:=e;refine ⟨g,0,rfl,hg,fun i hi=>?_⟩;obtain ⟨g',c',e,_,_,h1,h2⟩:=h.at hi;rw [hs] at e;simp only [Value.slice.injEq,Option.some.injEq,Addr.mk.injEq,and_true,true_and] at e;obtain ⟨rfl,rfl⟩:=e;rw [Nat.zero_add];exact ⟨h1,h2⟩
theorem Own2.pop {B:Nat} {w:World} {a:Option Addr} {n c:Nat} {T:List (Nat × Nat)} {z:Nat × Nat} (h:Own2 B w (.slice a (n+1) c) (T++[z])) (hn:T.length=n):Own2 B w (.slice a n c) T:=by
 obtain ⟨h1,h2⟩:=h
 rcases h2 with ⟨_,h2⟩ | ⟨g,cap,cur,hv,hg,hc,h5,h6,h7,h8⟩
 ·simp at h2
 ·simp only [Value.slice.injEq] at hv
  obtain ⟨rfl,_,rfl⟩:=hv
  have hl:(T++[z]).length=n+1:=by simp [hn]
  refine ⟨len_flat2 T,.inr ⟨g,c,cur,by rw [hn],hg,hc,by omega,h6,h7,?_⟩⟩;have:=congrArg (List.take (T.length*2)) h8;rw [List.take_take,flat2_snoc,List.take_append_of_le_length (by rw [len_flat2]; exact Nat.le_refl _),List.take_of_length_le (l:=flat2 T) (by rw [len_flat2]; exact Nat.le_refl _)] at this;rw [← this]
  congr 1
  rw [hl,hn];omega
theorem run_build2p (X:World) (a b:Int):(Instr.buildSlice 176 1 #[(0,.agg #[.int .i64 a,.int .i64 b])]).run Tryz.prog X=.ok (.slice (some ⟨X.heap.size,0,none⟩) 1 1) (X.alloc (.cells #[.int .i64 a,.int .i64 b] 108)):=by
 obtain ⟨i0,hi,hz0,hz1,hz2⟩:=info_parts infoPr;refine run_buildSlice X 176 108 1 _ _ i0 _ Tryz.underlying176 hi hz0 (by rw [hz1]; decide) (by rw [hz1]; decide) ?_;generalize (fun x=>((Value.agg #[.int .i64 0,.int .i64 0]).cells)[x % (Value.agg #[.int .i64 0,.int .i64 0]).cells.size]!)=f;rw [hz1];have h1:Array.range (1*2)=#[0,1]:=rfl;simp [Instr.fill,Value.cells,h1]
theorem exec_build2 {o:Oper} {a:Act} {w:World} {i j:Int} (x y:Operand) (ho:o.op=.build 108 #[(0,x),(1,y)]) (hx:a.eval x=.int .i64 i) (hy:a.eval y=.int .i64 j) :
  (execOp a.eval o).run Tryz.prog w=.ok (.value (.agg #[.int .i64 i,.int .i64 j])) w:=by
 unfold execOp;simp only [ho,Sem.run_bind,Sem.run_pure];simp only [List.map_toArray,List.map_cons,List.map_nil,hx,hy]
 have h:(Instr.build 108 #[(0,.int .i64 i),(1,.int .i64 j)]).run Tryz.prog w=.ok (.agg #[.int .i64 i,.int .i64 j]) w:=by kernel_rfl
 first | (rw [h]; rfl) | (erw [h]; rfl)
theorem run_load2 {b o:Nat} {x y:Value} {W:World} (h0:W.cell? ⟨b,o,none⟩=some x) (h1:W.cell? ⟨b,o+1,none⟩=some y):(loadVar 108 ⟨b,o,none⟩).run Tryz.prog W=.ok (.agg #[x,y]) W:=by
 have hl:(loadCells ⟨b,o,none⟩ 2).run Tryz.prog W=.ok #[x,y] W :=
  run_loadCells_list (P:=Tryz.prog) W ⟨b,o,none⟩ [x,y] (fun j v hv=>by
   match j,hv with
   | 0,hv=>simp at hv; subst hv; exact h0
   | 1,hv=>simp at hv; subst hv; exact h1)
 have ha:(isAgg 108).run Tryz.prog W=.ok true W:=by kernel_rfl
 have hs:(sizeOf 108).run Tryz.prog W=.ok 2 W:=by kernel_rfl
 simp [loadVar,Sem.run_bind,ha,hl,hs]
theorem run_sliceHi2 (w:World) (b:Addr) (n c k:Nat) (h:k≤c):(Instr.sliceAt 176 (.slice (some b) n c) none (some (.int .i64 (k:Int))) none).run Tryz.prog w=.ok (.slice (some b) k c) w:=by
 simp [Instr.sliceAt,Instr.slice,run_underlying Tryz.underlying176,Instr.sliceBounds,Instr.sliceBound,asIntOf,h,Addr.add]
theorem exec_sliceHi2 {o:Oper} {a:Act} {w:World} {v r:Value} {k:Nat} (x y:Operand) (ho:o.op=.slice 176 x none (some y) none) (hx:a.eval x=v) (hy:a.eval y=.int .i64 (k:Int)) (hr:(Instr.sliceAt 176 v none (some (.int .i64 (k:Int))) none).run Tryz.prog w=.ok r w) :
  (execOp a.eval o).run Tryz.prog w=.ok (.value r) w:=by
 unfold execOp;simp only [ho,hx,hy,Sem.run_bind,Sem.run_pure,Option.map]
 first | (rw [hr]; rfl) | (erw [hr]; rfl) | simp [hr]
theorem Own2.push {B:Nat} {W:World} {v:Value} {T:List (Nat × Nat)} (h:Own2 B W v T) (hB:B≤W.heap.size) (z:Nat × Nat) (hn:T.length<1000000) (ty:TypeId) :
  ∃ a c X,(Builtin.append_ #[176,176] ty #[v,.slice (some ⟨W.heap.size,0,none⟩) 1 1]).run Tryz.prog (W.alloc (.cells #[.int .i64 ((z.1:Nat):Int),.int .i64 ((z.2:Nat):Int)] 108))=.ok (.slice a (T.length+1) c) X∧Own2 B X (.slice a (T.length+1) c) (T++[z])∧Rg.Kp (fun k=>v.ownBlock=some k) W X∧(∀ k,(Value.slice a (T.length+1) c).ownBlock=some k→v.ownBlock=some k∨W.heap.size≤k):=by
 have hb:Below W.heap.size W (W.alloc (.cells #[.int .i64 ((z.1:Nat):Int),.int .i64 ((z.2:Nat):Int)] 108)):=(Below.refl _ _).alloc (Nat.le_refl _) _;obtain ⟨i0,hi,hz0,hz1,hz2⟩:=info_parts infoPr;have h':=Rg.row_below h hb
 have e2:(W.alloc (.cells #[.int .i64 ((z.1:Nat):Int),.int .i64 ((z.2:Nat):Int)] 108)).heap.size=W.heap.size+1:=by simp
 have c0:(W.alloc (.cells #[.int .i64 ((z.1:Nat):Int),.int .i64 ((z.2:Nat):Int)] 108)).cell? ⟨W.heap.size,0,none⟩=some (.int .i64 ((z.1:Nat):Int)):=by rw [Rg.cellNew]; rfl
 have c1:(W.alloc (.cells #[.int .i64 ((z.1:Nat):Int),.int .i64 ((z.2:Nat):Int)] 108)).cell? ⟨W.heap.size,1,none⟩=some (.int .i64 ((z.2:Nat):Int)):=by rw [Rg.cellNew]; rfl
 generalize W.alloc (.cells #[.int .i64 ((z.1:Nat):Int),.int .i64 ((z.2:Nat):Int)] 108)=W1 at *
 obtain ⟨v',X,hr,h2,h3,h4,h5⟩:=run_append_own_at (P:=Tryz.prog) W1 B 176 ty 108 i0 (.agg #[.int .i64 0,.int .i64 0]) 2 16 Tryz.underlying176 hi hz0 hz1 hz2 rfl (by decide) v T.length (flat2 T) h' ⟨W.heap.size,0,none⟩ 1 1 [.int .i64 ((z.1:Nat):Int),.int .i64 ((z.2:Nat):Int)] rfl (fun j x hj=>by
  match j,hj with
  | 0,hj=>simp at hj; subst hj; exact c0
  | 1,hj=>simp at hj; subst hj; exact c1) (by simp [Value.oneCell']) (by unfold maxLen; omega) (by omega) (by omega)
 have hs2:Own2 B X v' (T++[z]):=by
  unfold Own2;rw [flat2_snoc,List.length_append];exact h2
 obtain ⟨a,c,hs,hc⟩:=hs2.shape;rw [List.length_append,List.length_singleton] at hs hc;subst hs;refine ⟨a,c,X,hr,hs2,Rg.Kp.trans (M:=fun k=>v.ownBlock=some k) ((Rg.Kp.of_below hb).weak fun _=>False.elim) (Rg.Kp.of_grown h3 fun _ e=>e) (fun _ _ e=>e),fun k e=>?_⟩
 rcases h5 with h5 | h5
 ·exact .inl (by rw [← h5]; exact e)
 ·rw [h5] at e
  injection e with e
  exact .inr (by omega)
end Go.Proofs.YthehbckogieimaaGreat

namespace Go.Proofs.YthehbckogieimaaGreat
open Go.RowKit
open Go.Proofs
open Go.Proofs.Ob
open Go.Proofs.Cm (Gd)
attribute [local irreducible] Go.Calls Go.wpList
theorem Hecl0 (args:Array Value) (w:World):(callFunc 168 args).run Tryz.prog w=.ok (.enter 168 args) w:=by kernel_rfl
theorem exec_alloc2 {o:Oper} {a:Act} {w:World} (ho:o.op=.alloc 108):(execOp a.eval o).run Tryz.prog w=.ok (.value (.pointer (some ⟨w.heap.size,0,none⟩))) (w.alloc (.cells #[.int .i64 0,.int .i64 0] 108)):=by
 obtain ⟨i0,hi,hz0,hz1,hz2⟩:=info_parts infoPr;unfold execOp;simp [ho,Instr.alloc,typeInfo,zeroValue,hi,hz0,newVar,Value.cells,Result.andThen];rfl
theorem run_store2 {w:World} {b:Nat} {u1 u2:Value} (x y:Int) (h1:w.cell? ⟨b,0,none⟩=some u1) (h2:w.cell? ⟨b,1,none⟩=some u2) (f1:w.frozen? ⟨b,0,none⟩=false) (f2:w.frozen? ⟨b,1,none⟩=false) :
  (storeVar 108 ⟨b,0,none⟩ (.agg #[.int .i64 x,.int .i64 y])).run Tryz.prog w=.ok () ((w.setCell ⟨b,0,none⟩ (.int .i64 x)).setCell ⟨b,1,none⟩ (.int .i64 y)):=by
 obtain ⟨i0,hi,hz0,hz1,hz2⟩:=info_parts infoPr
 have g2:(w.setCell ⟨b,0,none⟩ (.int .i64 x)).cell? ⟨b,1,none⟩=some u2:=by
  rw [World.cell?_setCell_other (h:=by intro e; injection e with e1 e2; omega) ..]
  exact h2
 have gf:(w.setCell ⟨b,0,none⟩ (.int .i64 x)).frozen? ⟨b,1,none⟩=false:=by rw [World.frozen?_setCell]; exact f2
 have ha0:(⟨b,0,none⟩:Addr).add 0=⟨b,0,none⟩:=by simp [Addr.add]
 have ha1:(⟨b,0,none⟩:Addr).add 1=⟨b,1,none⟩:=by simp [Addr.add]
 simp [storeVar,sizeOf,typeInfo,hi,hz1,Value.cells,storeCells,store,ha0,ha1];simp [Sem.run,h1,f1,g2,gf]
theorem pr_fresh (W:World) (z:Nat × Nat):∃ W2,(storeVar 108 ⟨W.heap.size,0,none⟩ (.agg #[.int .i64 ((z.1:Nat):Int),.int .i64 ((z.2:Nat):Int)])).run Tryz.prog (W.alloc (.cells #[.int .i64 0,.int .i64 0] 108))=.ok () W2∧CL W2 W.heap.size 0 (.int .i64 ((z.1:Nat):Int))∧CL W2 W.heap.size 1 (.int .i64 ((z.2:Nat):Int))∧Below W.heap.size W W2:=by
 have c0:(W.alloc (.cells #[.int .i64 0,.int .i64 0] 108)).cell? ⟨W.heap.size,0,none⟩=some (.int .i64 0):=by rw [Rg.cellNew]; rfl
 have c1:(W.alloc (.cells #[.int .i64 0,.int .i64 0] 108)).cell? ⟨W.heap.size,1,none⟩=some (.int .i64 0):=by rw [Rg.cellNew]; rfl
 have f0:(W.alloc (.cells #[.int .i64 0,.int .i64 0] 108)).frozen? ⟨W.heap.size,0,none⟩=false:=frozenNewN _ _ _ 0 _;have f1:(W.alloc (.cells #[.int .i64 0,.int .i64 0] 108)).frozen? ⟨W.heap.size,1,none⟩=false:=frozenNewN _ _ _ 0 _
 have c1':((W.alloc (.cells #[.int .i64 0,.int .i64 0] 108)).setCell ⟨W.heap.size,0,none⟩ (.int .i64 ((z.1:Nat):Int))).cell? ⟨W.heap.size,1,none⟩=some (.int .i64 0):=by
  rw [World.cell?_setCell_other (h:=by intro e; injection e with e1 e2; omega) ..]; exact c1
 refine ⟨_,run_store2 _ _ c0 c1 f0 f1,⟨?_,by simp⟩,⟨World.cell?_setCell_same (h:=c1') ..,by simp⟩,(((Below.refl _ _).alloc (Nat.le_refl _) _).setCell (p:=⟨W.heap.size,0,none⟩) (Nat.le_refl _) _).setCell (p:=⟨W.heap.size,1,none⟩) (Nat.le_refl _) _⟩
 rw [World.cell?_setCell_other (h:=by intro e; injection e with e1 e2; omega) ..]
 exact World.cell?_setCell_same (h:=c0) ..
structure ClM (wb W:World) (fb n:Nat) (φ:Nat→Nat) (B gb:Nat) (gv tv:Value) (T:List (Nat × Nat)):Prop where
 bel:Below wb.heap.size wb W
 f:rowN W fb n φ
 t:Own2 B W tv T
 g0:CL W gb 0 (.int .i64 ((n:Nat):Int))
 g1:CL W gb 1 gv
 gne:gb≠fb
 tg:tv.ownBlock≠some gb
 sz:B≤W.heap.size
 lo:wb.heap.size≤fb
 lB:fb<B
theorem rowN.lt {w:World} {b n:Nat} {φ:Nat→Nat} (h:rowN w b n φ):b<w.heap.size:=by
 obtain ⟨c,h1,_⟩:=h;exact (Array.getElem?_eq_some_iff.1 h1).1
theorem rowN.below {w w':World} {b n:Nat} {φ:Nat→Nat} (h:rowN w b n φ) (hb:Below w.heap.size w w'):rowN w' b n φ:=h.kp (Rg.Kp.of_below hb (M:=fun _=>False)) id
theorem Own2.below {B:Nat} {w w':World} {v:Value} {T:List (Nat × Nat)} (h:Own2 B w v T) (hb:Below w.heap.size w w'):Own2 B w' v T:=h.kp (Rg.Kp.of_below hb (M:=fun _=>False)) (fun _ e=>e.elim)
theorem ClM.below {wb W W':World} {fb n:Nat} {φ:Nat→Nat} {B gb:Nat} {gv tv:Value} {T:List (Nat × Nat)} (h:ClM wb W fb n φ B gb gv tv T) (hb:Below W.heap.size W W'):ClM wb W' fb n φ B gb gv tv T :=
 ⟨h.bel.trans (hb.mono h.bel.size),h.f.below hb,h.t.below hb,h.g0.up hb,h.g1.up hb,h.gne,h.tg,Nat.le_trans h.sz hb.size,h.lo,h.lB⟩
theorem ClM.uni {wb W W':World} {fb n:Nat} {φ φ':Nat→Nat} {B gb:Nat} {gv tv:Value} {T:List (Nat × Nat)} (h:ClM wb W fb n φ B gb gv tv T) (hf:rowN W' fb n φ') (hk:Rg.Kp (fun z=>z=fb) W W'):ClM wb W' fb n φ' B gb gv tv T :=
 ⟨Rg.Kp.below h.bel hk (fun z e=>e▸h.lo),hf,h.t.kp hk (fun k e e2=>by have:=(h.t.lt k e2).1; have:=h.lB; omega),h.g0.kp hk h.gne,h.g1.kp hk h.gne,h.gne,h.tg,Nat.le_trans h.sz hk.size,h.lo,h.lB⟩
theorem ClM.pop {wb W:World} {fb n:Nat} {φ:Nat→Nat} {B gb:Nat} {gv:Value} {a:Option Addr} {k c:Nat} {T:List (Nat × Nat)} {z:Nat × Nat} (h:ClM wb W fb n φ B gb gv (.slice a (k+1) c) (T++[z])) (hk:T.length=k):ClM wb W fb n φ B gb gv (.slice a k c) T :=
 ⟨h.bel,h.f,h.t.pop hk,h.g0,h.g1,h.gne,fun e=>h.tg (by cases a with | none=>simp [Value.ownBlock] at e | some b=>exact e),h.sz,h.lo,h.lB⟩
theorem ClM.push {wb W:World} {fb n:Nat} {φ:Nat→Nat} {B gb:Nat} {gv tv:Value} {T:List (Nat × Nat)} (h:ClM wb W fb n φ B gb gv tv T) (z:Nat × Nat) (hn:T.length<1000000) (ty:TypeId) :
  ∃ a c X,(Builtin.append_ #[176,176] ty #[tv,.slice (some ⟨W.heap.size,0,none⟩) 1 1]).run Tryz.prog (W.alloc (.cells #[.int .i64 ((z.1:Nat):Int),.int .i64 ((z.2:Nat):Int)] 108))=.ok (.slice a (T.length+1) c) X∧ClM wb X fb n φ B gb gv (.slice a (T.length+1) c) (T++[z])∧Rg.Kp (fun k=>tv.ownBlock=some k) W X∧(∀ k,(Value.slice a (T.length+1) c).ownBlock=some k→tv.ownBlock=some k∨W.heap.size≤k):=by
 obtain ⟨a,c,X,r1,r2,r3,r4⟩:=h.t.push h.sz z hn ty;have hlo:∀ k,tv.ownBlock=some k→B≤k:=fun k e=>(h.t.lt k e).1;refine ⟨a,c,X,r1,⟨Rg.Kp.below h.bel r3 (fun k e=>by have:=hlo k e; have:=h.lB; have:=h.lo; omega),h.f.kp r3 (fun e=>by have:=hlo _ e; have:=h.lB; omega),r2,h.g0.kp r3 h.tg,h.g1.kp r3 h.tg,h.gne,fun e=>?_,Nat.le_trans h.sz r3.size,h.lo,h.lB⟩,r3,r4⟩
 rcases r4 _ e with e | e
 ·exact h.tg e
 ·have:=h.g1.lt; omega
structure ClX (wb W:World) (fb n:Nat) (φ:Nat→Nat) (B gb:Nat) (gv tv:Value) (T:List (Nat × Nat)) (xb:Nat) (z:Nat × Nat):Prop where
 m:ClM wb W fb n φ B gb gv tv T
 x0:CL W xb 0 (.int .i64 ((z.1:Nat):Int))
 x1:CL W xb 1 (.int .i64 ((z.2:Nat):Int))
 xne:xb≠fb
 tx:tv.ownBlock≠some xb
theorem ClX.below {wb W W':World} {fb n:Nat} {φ:Nat→Nat} {B gb:Nat} {gv tv:Value} {T:List (Nat × Nat)} {xb:Nat} {z:Nat × Nat} (h:ClX wb W fb n φ B gb gv tv T xb z) (hb:Below W.heap.size W W'):ClX wb W' fb n φ B gb gv tv T xb z :=
 ⟨h.m.below hb,h.x0.up hb,h.x1.up hb,h.xne,h.tx⟩
theorem ClX.uni {wb W W':World} {fb n:Nat} {φ φ':Nat→Nat} {B gb:Nat} {gv tv:Value} {T:List (Nat × Nat)} {xb:Nat} {z:Nat × Nat} (h:ClX wb W fb n φ B gb gv tv T xb z) (hf:rowN W' fb n φ') (hk:Rg.Kp (fun z=>z=fb) W W'):ClX wb W' fb n φ' B gb gv tv T xb z :=
 ⟨h.m.uni hf hk,h.x0.kp hk h.xne,h.x1.kp hk h.xne,h.xne,h.tx⟩
theorem ClX.push {wb W:World} {fb n:Nat} {φ:Nat→Nat} {B gb:Nat} {gv tv:Value} {T:List (Nat × Nat)} {xb:Nat} {z:Nat × Nat} (h:ClX wb W fb n φ B gb gv tv T xb z) (y:Nat × Nat) (hn:T.length<1000000) (ty:TypeId) :
  ∃ a c X,(Builtin.append_ #[176,176] ty #[tv,.slice (some ⟨W.heap.size,0,none⟩) 1 1]).run Tryz.prog (W.alloc (.cells #[.int .i64 ((y.1:Nat):Int),.int .i64 ((y.2:Nat):Int)] 108))=.ok (.slice a (T.length+1) c) X∧ClX wb X fb n φ B gb gv (.slice a (T.length+1) c) (T++[y]) xb z:=by
 obtain ⟨a,c,X,r1,r2,r3,r4⟩:=h.m.push y hn ty;refine ⟨a,c,X,r1,r2,h.x0.kp r3 h.tx,h.x1.kp r3 h.tx,h.xne,fun e=>?_⟩
 rcases r4 _ e with e | e
 ·exact h.tx e
 ·have:=h.x0.lt; omega
def FcPost (wb:World) (fb n m:Nat) (f:Nat→Nat→Nat) (P:Nat→Nat→Prop) (φ:Nat→Nat) (e:Ending) (w':World):Prop :=
 ∃ φ' D',e=.returned (.tuple #[])∧rowN w' fb n φ'∧Bk.CI n m f P φ' D' []∧(∀ i j,i<n→j<n→Bk.rt φ i=Bk.rt φ j→Bk.rt φ' i=Bk.rt φ' j)∧Below wb.heap.size wb w'
theorem img_lt {gs:List (List Nat)} {D:Nat} (hg:GG D gs):∀ s a,s<gs.length→a<D→img gs s a<D:=fun s a hs ha=>hg.cl s hs a ha
theorem last_or2 (T:List (Nat × Nat)):T=[]∨∃ T' x,T=T'++[x]:=by
 rcases T.eq_nil_or_concat with h | ⟨l,b,h⟩
 ·exact .inl h
 ·exact .inr ⟨l,b,by simpa using h⟩
theorem fclose_any (wb w:World) (fb n c:Nat) (φ:Nat→Nat) (gv tv:Value) (gs:List (List Nat)) (B:Nat) (D T:List (Nat × Nat)) (P:Nat→Nat→Prop) (hbw:Below wb.heap.size wb w) (hfb:wb.heap.size≤fb) (hfB:fb<B) (hBw:B≤w.heap.size) (hn:n≤1000) (hc:n≤c) (hg:Rg.Rows wb gv (gs.map Ma.ofN)) (hgg:GG n gs) (hgl:gs.length≤1000) (hrow:rowN w fb n φ) (hT:Own2 B w tv T) (hTl:T.length+Bk.prt n φ≤100000) (ci:Bk.CI n gs.length (img gs) P φ D T) :
  Calls Tryz.prog 169 #[.slice (some ⟨fb,0,none⟩) n c,.agg #[.int .i64 ((n:Nat):Int),gv],tv] w (FcPost wb fb n gs.length (img gs) P φ):=by
 obtain ⟨ga,gc,hsh,-⟩:=hg.shape;rw [List.length_map] at hsh;subst hsh;obtain ⟨ta,tc,rfl,htc⟩:=hT.shape;have HG:=ι hg;have HGG:=ι hgg;have HCI:=ι ci;have HTL:=ι hTl;have HML:=ι (show (gs.map Ma.ofN).length=gs.length from List.length_map _);have HMO:=ι (fun i j (_:i<n) (_:j<n) (h:Bk.rt φ i=Bk.rt φ j)=>h);have hb0:Below w.heap.size w (w.alloc (.cells #[.int .i64 ((n:Nat):Int),.slice ga gs.length gc] 24)):=(Below.refl _ _).alloc (Nat.le_refl _) _
 have CM:=ι (show ClM wb (w.alloc (.cells #[.int .i64 ((n:Nat):Int),.slice ga gs.length gc] 24)) fb n φ B w.heap.size (.slice ga gs.length gc) (.slice ta T.length tc) T from
  ⟨hbw.trans (hb0.mono hbw.size),hrow.below hb0,hT.below hb0,(box2 w (.int .i64 ((n:Nat):Int)) (.slice ga gs.length gc)).1,(box2 w (.int .i64 ((n:Nat):Int)) (.slice ga gs.length gc)).2,fun e=>by have:=hrow.lt; omega,fun e=>by have:=(hT.lt _ e).2; omega,Nat.le_trans hBw hb0.size,hfb,hfB⟩)
 clear hb0 hbw hfb hfB hBw hg hgg hrow hT ci hTl htc
 go_enter Tryz.func169,Tryz.ntmps169
 generalize hgb:w.heap.size=gb at *;go_upto_region 0 with (fail);refine wp_region_list ?_;refine Rg.lr 4 (Rg.exec_box _ _ rfl rfl) ?_;go_frame;rw [hgb];clear hgb;generalize w.alloc (.cells #[.int .i64 ((n:Nat):Int),.slice ga gs.length gc] 24)=w0 at *;go_wp2
 go_loopg [2] (T.length+Bk.prt n φ) (fun g tv wr=>∃ (φ':Nat→Nat) (D T:List (Nat × Nat)),Hid (Bk.CI n gs.length (img gs) P φ' D T)∧Hid (T.length+Bk.prt n φ'=g∧g≤100000)∧Hid (∀ i j,i<n→j<n→Bk.rt φ i=Bk.rt φ j→Bk.rt φ' i=Bk.rt φ' j)∧Hid (ClM wb wr fb n φ' B gb (.slice ga gs.length gc) tv T))
 case atStart=>exact ⟨φ,D,T,HCI,ι ⟨rfl,HTL.out⟩,HMO,CM⟩
 case round =>
  clear HCI HTL HMO CM;obtain ⟨φ',D,T,HCI,HTL,HMO,CM⟩:=hrel;obtain ⟨ta,tc,rfl,-⟩:=CM.out.t.shape
  rcases last_or2 T with hT0 | ⟨T',z,hTz⟩
  case inl =>
   subst hT0;go_upto_region 1 with (fail);refine wp_region_list ?_;refine Rg.lm 11 (.slice ta ([]:List (Nat × Nat)).length tc) ?_;go_frame;refine Rg.lr 12 (exec_len _ _ _ rfl Tryz.underlying176 _ _ _ rfl) ?_;go_frame;refine Rg.lr 13 (exec_bin (R:=.bool false) .gtr _ _ _ rfl rfl rfl (b_gtr _ (decide_eq_false (by simp)))) ?_;go_frame;go_wp2;refine bodyPost_ret (results_none rfl _ _ _) rfl ?_;exact ⟨φ',D,rfl,CM.out.f,HCI.out,HMO.out,CM.out.bel⟩
  case inr =>
   subst hTz
   have hlen:(T'++[z]).length=T'.length+1:=by rw [List.length_append]; rfl
   have hTL:=HTL.out;rw [hlen] at hTL;have HTB:=ι (show T'.length+1+Bk.prt n φ'=gk∧gk≤100000 from hTL)
   have hTb:T'.length≤100000:=by omega
   obtain ⟨tb,tc',e1,htb,htc,h0,h1⟩:=CM.out.t.at (i:=T'.length) (by rw [hlen]; omega);simp only [Value.slice.injEq,true_and] at e1;obtain ⟨rfl,rfl⟩:=e1;rw [hlen] at htc;rw [List.getElem_append_right (Nat.le_refl _)] at h0 h1;simp only [Nat.sub_self,List.getElem_cons_zero] at h0 h1;have CT0:=ι (CL.mk h0 htb);have CT1:=ι (CL.mk h1 htb);have HJ:=ι HCI.out.pop;have HTC:=ι htc;rw [hlen] at CM ⊢;clear h0 h1 htb hTL hlen HCI HTL;go_upto_region 1 with (fail);refine wp_region_list ?_;refine Rg.lm 11 (.slice (some ⟨tb,0,none⟩) (T'.length+1) tc) ?_;go_frame;refine Rg.lr 12 (exec_len _ _ _ rfl Tryz.underlying176 _ _ _ rfl) ?_;go_frame;refine Rg.lr 13 (exec_bin (R:=.bool true) .gtr _ _ _ rfl rfl rfl (b_gtr _ (decide_eq_true (by omega)))) ?_;go_frame;go_upto_region 2 with (fail);refine wp_region_list ?_;refine Rg.lm 14 (.slice (some ⟨tb,0,none⟩) (T'.length+1) tc) ?_;go_frame
   refine Rg.lm 15 (.slice (some ⟨tb,0,none⟩) (T'.length+1) tc) ?_;go_frame;refine Rg.lr 16 (exec_len _ _ _ rfl Tryz.underlying176 _ _ _ rfl) ?_;go_frame;refine Rg.lr 17 (exec_bin (R:=.int .i64 ((T'.length:Nat):Int)) .sub _ _ _ rfl rfl rfl (b_sub _ (by omega) (by omega))) ?_;go_frame;refine Rg.lr 18 (exec_indexZ0 _ _ rfl Tryz.underlying176 szPr tb ((T'.length+1)) (tc) (T'.length) rfl rfl (by omega)) ?_;go_frame;refine Rg.lr 19 (Rg.exec_load (v:=.agg #[.int .i64 ((z.1:Nat):Int),.int .i64 ((z.2:Nat):Int)]) _ _ rfl ⟨tb,T'.length*2,none⟩ rfl (run_load2 CT0.out.cell CT1.out.cell)) ?_;go_frame;obtain ⟨wx,hst,hx0,hx1,hbx⟩:=pr_fresh wr z;refine Rg.lr 6 (exec_alloc2 rfl) ?_;go_frame;refine Rg.list_skip none rfl rfl (Rg.exec_store _ _ _ rfl _ rfl _ rfl hst) ?_;go_frame;have CX:=ι (show ClX wb wx fb n φ' B gb (.slice ga gs.length gc) (.slice (some ⟨tb,0,none⟩) T'.length tc) T' wr.heap.size z from ⟨(CM.out.pop rfl).below hbx,hx0,hx1,fun e=>by have:=CM.out.f.lt; omega,fun e=>by have:=(CM.out.t.lt _ e).2; omega⟩)
   clear hst hx0 hx1 hbx CM CT0 CT1;generalize wr.heap.size=xb at *;go_upto_region 3 with (fail);refine wp_region_list ?_;refine Rg.lm 20 (.slice (some ⟨tb,0,none⟩) (T'.length+1) tc) ?_;go_frame;refine Rg.lm 21 (.slice (some ⟨tb,0,none⟩) (T'.length+1) tc) ?_;go_frame;refine Rg.lr 22 (exec_len _ _ _ rfl Tryz.underlying176 _ _ _ rfl) ?_;go_frame;refine Rg.lr 23 (exec_bin (R:=.int .i64 ((T'.length:Nat):Int)) .sub _ _ _ rfl rfl rfl (b_sub _ (by omega) (by omega))) ?_;go_frame;refine Rg.lr 24 (exec_sliceHi2 _ _ rfl rfl rfl (run_sliceHi2 _ _ _ _ _ (by have:=HTC.out; omega))) ?_;go_frame;refine Rg.la 2 (.slice (some ⟨tb,0,none⟩) T'.length tc) ?_;go_frame;go_upto_region 4 with (fail);refine wp_region_list ?_;refine Rg.lr 25 (exec_fieldG _ rfl rfl) ?_;go_frame;refine Rg.lr 26 (Rg.exec_load (v:=.slice ga gs.length gc) _ _ rfl ⟨gb,1,none⟩ rfl (Rg.run_loadSl _ _ Tryz.underlying22 CX.out.m.g1.cell)) ?_;go_frame
   refine Rg.lr 27 (exec_len _ _ _ rfl Tryz.underlying22 _ _ _ rfl) ?_;go_frame;refine Rg.lm 28 (.int .i64 ((0:Nat):Int)) ?_;go_frame;go_wp2
   go_loopw [2,28] (fun tv kv wr=>∃ (k:Nat) (φ2:Nat→Nat) (T2:List (Nat × Nat)),kv=.int .i64 ((k:Nat):Int)∧k≤gs.length∧Hid (Bk.CJ n gs.length (img gs) P φ2 D T2 z k)∧Hid (T2.length+1+Bk.prt n φ2≤gk)∧Hid (∀ i j,i<n→j<n→Bk.rt φ i=Bk.rt φ j→Bk.rt φ2 i=Bk.rt φ2 j)∧Hid (ClX wb wr fb n φ2 B gb (.slice ga gs.length gc) tv T2 xb z)) (fun _ kv _=>gs.length - (intOf kv).toNat)
   case atStart=>exact ⟨0,φ',T',rfl,Nat.zero_le _,HJ,ι (by have:=HTB.out; omega),HMO,CX⟩
   case round =>
    clear HJ HMO CX HTC;obtain ⟨k,φ2,T2,rfl,hk,HJ,HT2,HMO,CX⟩:=hrel;obtain ⟨ta,tc,rfl,-⟩:=CX.out.m.t.shape;generalize wr=wd at *
    have hT2b:T2.length≤100000:=by have:=HT2.out; have:=HTB.out; omega
    by_cases hkl:k<gs.length
    case neg =>
     obtain rfl:k=gs.length:=by omega
     have hkN:¬ ((gs.length:Nat):Int)<(gs.length:Int):=by omega
     go_upto_region 5 with (fail);refine wp_region_list ?_;refine Rg.lr 29 (exec_bin (R:=.bool false) .lss _ _ _ rfl rfl rfl (b_lss _ (decide_eq_false hkN))) ?_;go_frame;go_wp2
     go_roundg (T2.length+Bk.prt n φ2)
     case measure=>have:=HT2.out; omega
     case rel=>exact ⟨φ2,z :: D,T2,ι HJ.out.done,ι ⟨rfl,by have:=HT2.out; have:=HTB.out; omega⟩,HMO,ι CX.out.m⟩
    case pos =>
     have hkN:((k:Nat):Int)<(gs.length:Int):=by omega
     have HKN:=ι (show k<(gs.map Ma.ofN).length by rw [HML.out]; exact hkl)
     have hk1000:k<1000:=by omega
     obtain ⟨z1,z2⟩:=HJ.out.rng;obtain ⟨rb,ro,ua,uc,rfl,hgb,hgc,hgu⟩:=rows_get HG.out (i:=k) HKN.out;obtain ⟨gi,HGI⟩:∃ z,Hid (gs[k]'hkl=z):=⟨_,ι rfl⟩
     have hgd:gi.length=n:=by rw [← HGI.out]; exact (HGG.out _ (List.getElem_mem hkl)).2
     rw [show (gs.map Ma.ofN)[k]'HKN.out=Ma.ofN gi by rw [List.getElem_map,HGI.out]] at hgc hgu;rw [Ma.len_ofN,hgd] at hgc hgu
     have hsl:(Ma.ofN gi).length=n:=by rw [Ma.len_ofN,hgd]
     obtain ⟨ub,uo,rfl,hub,hu1⟩:=ints_get hgu (k:=z.1) (by rw [hsl]; exact z1);obtain ⟨ub',uo',e',-,hu2⟩:=ints_get hgu (k:=z.2) (by rw [hsl]; exact z2);simp only [Option.some.injEq,Addr.mk.injEq,and_true] at e';obtain ⟨rfl,rfl⟩:=e';obtain ⟨x,hx⟩:∃ x,Hid (img gs k z.1=x):=⟨_,ι rfl⟩;obtain ⟨y,hy⟩:∃ y,Hid (img gs k z.2=y):=⟨_,ι rfl⟩
     have ex:(Ma.ofN gi)[z.1]'(by rw [hsl]; exact z1)=((x:Nat):Int):=by
      rw [Ma.get_ofN,← hx.out,img_get hkl (by rw [HGI.out,hgd]; exact z1)];simp only [HGI.out]
     have ey:(Ma.ofN gi)[z.2]'(by rw [hsl]; exact z2)=((y:Nat):Int):=by
      rw [Ma.get_ofN,← hy.out,img_get hkl (by rw [HGI.out,hgd]; exact z2)];simp only [HGI.out]
     rw [ex] at hu1;rw [ey] at hu2
     have hxn:x<n:=by rw [← hx.out]; exact img_lt HGG.out k _ hkl z1
     have hyn:y<n:=by rw [← hy.out]; exact img_lt HGG.out k _ hkl z2
     have hbe:=CX.out.m.bel;have CG:=ι (CL.up (CL.mk hgc hgb) hbe);have CU:=ι (CL.up (CL.mk hu1 hub) hbe);have CV:=ι (CL.up (CL.mk hu2 hub) hbe);obtain ⟨p1,hp1⟩:∃ p,Hid (z.1=p):=⟨_,ι rfl⟩;obtain ⟨p2,hp2⟩:∃ p,Hid (z.2=p):=⟨_,ι rfl⟩;have CX0:=ι CX.out.x0;have CX1:=ι CX.out.x1;rw [hp1.out] at CX0 CU z1;rw [hp2.out] at CX1 CV z2;clear hgb hgc hgu hub hu1 hu2 ex ey hbe;go_upto_region 5 with (fail);refine wp_region_list ?_;refine Rg.lr 29 (exec_bin (R:=.bool true) .lss _ _ _ rfl rfl rfl (b_lss _ (decide_eq_true hkN))) ?_;go_frame;go_upto_region 6 with (fail);refine wp_region_list ?_;refine Rg.lr 30 (exec_indexS slPerms _ _ rfl rb (ro) (gs.length) gc (k) rfl rfl hkl) ?_;go_frame;refine Rg.lr 31 (Rg.exec_load (v:=.slice (some ⟨ub,uo,none⟩) n uc) _ _ rfl ⟨rb,ro+k,none⟩ rfl (Rg.run_loadSl _ _ Tryz.underlying51 CG.out.cell)) ?_;go_frame;refine Rg.la 8 (.slice (some ⟨ub,uo,none⟩) n uc) ?_;go_frame
     go_upto_region 7 with (fail);have hV0:Below wd.heap.size wd wd.drew:=(Below.refl _ _).drew;replace CX:=ι (CX.out.below hV0);replace CG:=ι (CG.out.below hV0);replace CU:=ι (CU.out.below hV0);replace CV:=ι (CV.out.below hV0);replace CX0:=ι (CX0.out.below hV0);replace CX1:=ι (CX1.out.below hV0);clear hV0;refine Rg.Any.begin (S:=Rg.Both 11 (fun _=>True) (fun W=>Below wd.drew.heap.size wd.drew W)) mix ?_;generalize wd.drew=w61 at *;have hS:∀ (l:Array Bool) W,Below w61.heap.size w61 W→Rg.Both 11 (fun _=>True) (fun W=>Below w61.heap.size w61 W) l W:=fun l W h=>⟨.inr trivial,h⟩;have hI:Below w61.heap.size w61 w61:=Below.refl _ _;refine Rg.tm 0 11 (.slice (some ⟨ub,uo,none⟩) n uc) 32 (hS _ _ hI) ?_;go_frame;refine Rg.tg 1 11 (.pointer (some ⟨xb,0+0,none⟩)) 33 rfl rfl (.inl ⟨rfl,fun w _=>exec_indexArr _ _ rfl Tryz.underlying108 szI xb (0) (0) rfl rfl (by omega)⟩) (hS _ _ hI) ?_;go_frame
     refine Rg.tg 2 11 (.int .i64 ((p1:Nat):Int)) 34 rfl rfl (Rg.yields_cell _ _ rfl rfl ⟨xb,0+0,none⟩ rfl (fun W hW=>run_loadInt ((Below.cell (p:=⟨xb,0+0,none⟩) hW CX0.out.lt).trans CX0.out.cell))) (hS _ _ hI) ?_;go_frame;refine Rg.tg 3 11 (.pointer (some ⟨ub,uo+p1,none⟩)) 35 rfl rfl (Rg.yields_index slPerm _ _ rfl rfl ub (uo) (n) uc (p1) rfl rfl z1) (hS _ _ hI) ?_;go_frame;refine Rg.tg 4 11 (.int .i64 ((x:Nat):Int)) 36 rfl rfl (Rg.yields_cell _ _ rfl rfl ⟨ub,uo+p1,none⟩ rfl (fun W hW=>run_loadInt ((Below.cell (p:=⟨ub,uo+p1,none⟩) hW CU.out.lt).trans CU.out.cell))) (hS _ _ hI) ?_;go_frame;refine Rg.tm 5 11 (.slice (some ⟨ub,uo,none⟩) n uc) 37 (hS _ _ hI) ?_;go_frame;refine Rg.tg 6 11 (.pointer (some ⟨xb,0+1,none⟩)) 38 rfl rfl (.inl ⟨rfl,fun w _=>exec_indexArr _ _ rfl Tryz.underlying108 szI xb (0) (1) rfl rfl (by omega)⟩) (hS _ _ hI) ?_;go_frame
     refine Rg.tg 7 11 (.int .i64 ((p2:Nat):Int)) 39 rfl rfl (Rg.yields_cell _ _ rfl rfl ⟨xb,0+1,none⟩ rfl (fun W hW=>run_loadInt ((Below.cell (p:=⟨xb,0+1,none⟩) hW CX1.out.lt).trans CX1.out.cell))) (hS _ _ hI) ?_;go_frame;refine Rg.tg 8 11 (.pointer (some ⟨ub,uo+p2,none⟩)) 40 rfl rfl (Rg.yields_index slPerm _ _ rfl rfl ub (uo) (n) uc (p2) rfl rfl z2) (hS _ _ hI) ?_;go_frame;refine Rg.tg 9 11 (.int .i64 ((y:Nat):Int)) 41 rfl rfl (Rg.yields_cell _ _ rfl rfl ⟨ub,uo+p2,none⟩ rfl (fun W hW=>run_loadInt ((Below.cell (p:=⟨ub,uo+p2,none⟩) hW CV.out.lt).trans CV.out.cell))) (hS _ _ hI) ?_;go_frame;refine Rg.tg 10 11 (.int .i64 ((x:Nat):Int)) 9 rfl rfl (.inl ⟨rfl,fun w _=>Rg.exec_assign (v:=.int .i64 ((x:Nat):Int)) _ rfl rfl⟩) (hS _ _ hI) ?_;go_frame;refine Rg.Any.one (i:=11) (by kernel_rfl) (Rg.Any.run (some 10) rfl rfl rfl (Rg.xa (.int .i64 ((y:Nat):Int)) _ rfl rfl) (hS _ _ hI) ?_)
     go_frame;refine Rg.Any.done (by kernel_rfl) ?_ _;clear hS hI;clear CG CU CV CX0 CX1;go_upto_region 8 with (fail);refine wp_region_list ?_;refine Rg.lm 42 (.slice (some ⟨fb,0,none⟩) n c) ?_;go_frame;refine Rg.lm 43 (.int .i64 ((x:Nat):Int)) ?_;go_frame;refine Rg.lm 44 (.int .i64 ((y:Nat):Int)) ?_;go_frame;refine list_ask (some 45) rfl rfl _ _ (exec_fn3 168 _ _ _ _ rfl rfl rfl rfl (Hecl0 _ _)) ?_;refine (unite_any fb n c φ2 x y w61 CX.out.m.f HJ.out.ci.fo hxn hyn hn hc).mono ?_;rintro e1 w62 ⟨φ3,r,rfl,hrow3,hu3,hkp3⟩;have hcx3:=CX.out.uni hrow3 hkp3;have HU3:=ι hu3;clear hrow3 hu3;refine ⟨_,rfl,?_⟩;go_frame;replace CX:=ι hcx3;clear hkp3 hcx3;have HU4:=ι (show Bk.Uni n φ2 φ3 (img gs k z.1) (img gs k z.2) r by rw [hx.out,hy.out]; exact HU3.out);have HJ2:=ι (HJ.out.unite (img_lt HGG.out) hkl HU4.out);have HMO2:=ι (fun i j (hi:i<n) (hj:j<n) (h:Bk.rt φ i=Bk.rt φ j)=>HU3.out.keep i j hi hj (HMO.out i j hi hj h))
     rw [hx.out,hy.out] at HJ2
     cases r with
     | false =>
      have HT3:=ι (show T2.length+1+Bk.prt n φ3≤gk by rw [(HU3.out.no rfl).2]; exact HT2.out);go_upto_region 10 with (fail);refine wp_region_list ?_;refine Rg.lr 52 (exec_bin (R:=.int .i64 (((k+1):Nat):Int)) .add _ _ _ rfl rfl rfl (b_add _ (by omega) (by omega))) ?_;go_frame;refine Rg.lm 28 (.int .i64 (((k+1):Nat):Int)) ?_;go_frame;go_wp2
      go_roundw
      case rel=>exact ⟨k+1,φ3,T2,by go_num,hkl,HJ2,HT3,HMO2,CX⟩
      case measure=>simp [intOf]; omega
     | true =>
      have HT3:=ι (show (T2++[(x,y)]).length+1+Bk.prt n φ3≤gk by rw [List.length_append,List.length_singleton]; have:=HU3.out.yes rfl; have:=HT2.out; omega);obtain ⟨a9,c9,X9,r1,hcx⟩:=CX.out.push (x,y) (by omega) 176;go_upto_region 9 with (fail);refine wp_region_list ?_;refine Rg.lm 46 (.slice ta T2.length tc) ?_;go_frame;refine Rg.lm 47 (.int .i64 ((x:Nat):Int)) ?_;go_frame;refine Rg.lm 48 (.int .i64 ((y:Nat):Int)) ?_;go_frame;refine Rg.lr 49 (exec_build2 _ _ rfl rfl rfl) ?_;go_frame;refine Rg.lr 50 (Rg.exec_buildSlice _ _ _ rfl (.agg #[.int .i64 ((x:Nat):Int),.int .i64 ((y:Nat):Int)]) rfl (run_build2p w62 _ _)) ?_;go_frame;refine Rg.lr 51 (Rg.exec_append _ _ _ rfl rfl rfl r1) ?_;go_frame;refine Rg.la 2 (.slice a9 (T2.length+1) c9) ?_;go_frame;have CX9:=ι hcx;clear r1 hcx;go_upto_region 10 with (fail);refine wp_region_list ?_;refine Rg.lr 52 (exec_bin (R:=.int .i64 (((k+1):Nat):Int)) .add _ _ _ rfl rfl rfl (b_add _ (by omega) (by omega))) ?_;go_frame
      refine Rg.lm 28 (.int .i64 (((k+1):Nat):Int)) ?_;go_frame;go_wp2
      go_roundw
      case rel=>exact ⟨k+1,φ3,T2++[(x,y)],by go_num,hkl,HJ2,HT3,HMO2,CX9⟩
      case measure=>simp [intOf]; omega

theorem Hfcl0 (args:Array Value) (w:World):(callFunc 167 args).run Tryz.prog w=.ok (.enter 167 args) w:=by kernel_rfl
theorem Hfcl2 (args:Array Value) (w:World):(callFunc 169 args).run Tryz.prog w=.ok (.enter 169 args) w:=by kernel_rfl
theorem Hfcl3 (args:Array Value) (w:World):(callFunc 170 args).run Tryz.prog w=.ok (.enter 170 args) w:=by kernel_rfl
theorem prt_le (n:Nat) (φ:Nat→Nat):Bk.prt n φ≤n:=by
 unfold Bk.prt;exact Nat.le_trans List.countP_le_length (by rw [List.length_range]; exact Nat.le_refl _)
def inT (T:List (Nat × Nat)) (x y:Nat):Prop:=(x,y)∈T
structure LbR (w w':World) (v:Value) (n:Nat) (L:List Nat):Prop where
 sh:∃ ob,v=.slice (some ⟨ob,0,none⟩) n n∧w.heap.size≤ob∧ob<w'.heap.size∧rowN w' ob n (fun j=>L.getD j 0)
 len:L.length=n
 bel:Below w.heap.size w w'
theorem LbR.ints {w w':World} {v:Value} {n:Nat} {L:List Nat} (h:LbR w w' v n L) (hn:n≤1000):Rg.Ints w' v (Ma.ofN L):=by
 obtain ⟨ob,rfl,h1,h2,h3⟩:=h.sh;exact Rg.NP.of_rowIs (l:=L) h3 h.len.symm (by omega) (fun i hi=>by dsimp only; rw [Bk.getD_lt hi])
theorem bleast_any (n:Nat) (gv pv:Value) (gs:List (List Nat)) (T0:List (Nat × Nat)) (w:World) (hn:n≤64) (hg:Rg.Rows w gv (gs.map Ma.ofN)) (hgg:GG n gs) (hgl:gs.length≤1000) (hp:Prs w pv T0) (hr:∀ z∈T0,z.1<n∧z.2<n) (hl:T0.length≤1000) :
  Calls Tryz.prog 87 #[.agg #[.int .i64 ((n:Nat):Int),gv],pv] w fun e w'=>∃ v L,e=.returned v∧LbR w w' v n L∧Bk.IsLab n (Bk.BR gs.length (img gs) (inT T0)) L:=by
 obtain ⟨ga,gc,hsh,-⟩:=hg.shape;rw [List.length_map] at hsh;subst hsh;obtain ⟨pa,pc,rfl,-,-,hpx⟩:=hp.sh;have HG:=ι hg;have HGG:=ι hgg;have HR:=ι hr;have HPX:=ι hpx;have hb0:Below w.heap.size w (w.alloc (.cells #[.int .i64 ((n:Nat):Int),.slice ga gs.length gc] 24)):=(Below.refl _ _).alloc (Nat.le_refl _) _;have G0:=ι (box2 w (.int .i64 ((n:Nat):Int)) (.slice ga gs.length gc)).1;have G1:=ι (box2 w (.int .i64 ((n:Nat):Int)) (.slice ga gs.length gc)).2;have K:=ι hb0;clear hg hgg hp hr hpx hb0
 go_enter Tryz.func87,Tryz.ntmps87
 obtain ⟨gb,hgb⟩:∃ gb,w.heap.size=gb:=⟨_,rfl⟩;rw [hgb] at G0 G1;go_upto_region 0 with (fail);refine wp_region_list ?_;refine Rg.lr 2 (Rg.exec_box _ _ rfl rfl) ?_;go_frame;refine Rg.la 4 (.slice none 0 0) ?_;go_frame;rw [hgb];generalize w.alloc (.cells #[.int .i64 ((n:Nat):Int),.slice ga gs.length gc] 24)=w0 at *;go_upto_region 1 with (fail);refine wp_region_list ?_;refine Rg.lr 9 (exec_fieldG0 _ rfl rfl) ?_;go_frame;refine Rg.lr 10 (Rg.exec_load (v:=.int .i64 ((n:Nat):Int)) _ _ rfl ⟨gb,0,none⟩ rfl (run_loadInt G0.out.cell)) ?_;go_frame;refine list_ask (some 11) rfl rfl _ _ (exec_fn1 167 _ _ rfl rfl (Hfcl0 _ _)) ?_;refine (newForest_any n w0 (by omega)).mono ?_;rintro e1 w1 ⟨fb,φ,rfl,hf1,hf2,hf3,hf4,hb⟩;have HF4:=ι hf4;have HB1:=ι (show w0.heap.size≤fb∧gb<w0.heap.size∧gb≤fb from ⟨hf1,G0.out.lt,by have:=G0.out.lt; omega⟩);refine ⟨_,rfl,?_⟩
 go_frame;replace G0:=ι (G0.out.below hb);replace G1:=ι (G1.out.below hb);replace K:=ι (Rg.acc K.out hb);clear hb;refine Rg.la 5 (.slice (some ⟨fb,0,none⟩) n n) ?_;go_frame;go_upto_region 2 with (fail);refine wp_region_list ?_;refine Rg.la 6 (.slice none 0 0) ?_;go_frame;go_upto_region 3 with (fail);refine wp_region_list ?_;refine Rg.lm 12 (.slice pa T0.length pc) ?_;go_frame;refine Rg.lr 13 (exec_len _ _ _ rfl Tryz.underlying176 _ _ _ rfl) ?_;go_frame;refine Rg.lm 14 (.int .i64 ((0:Nat):Int)) ?_;go_frame;have CM:=ι (show ClM w w1 fb n φ (fb+1) gb (.slice ga gs.length gc) (.slice none 0 0) [] from ⟨K.out,hf3,Own2.nil _ _,G0.out,G1.out,fun e=>by have h1:=HB1.out; omega,fun e=>by simp [Value.ownBlock] at e,hf2,by have h1:=HB1.out; omega,Nat.lt_succ_self _⟩);have HCI:=ι (Bk.CI.start (m:=gs.length) (f:=img gs) (P:=inT T0) HF4.out);have HBS:=ι (show ∀ j (h:j<T0.length),j<0→Bk.rt φ T0[j].1=Bk.rt φ T0[j].2 from fun j _ h=>absurd h (Nat.not_lt_zero _))
 clear hf1 hf2 hf3 hf4 K G0 G1 HF4 HB1 hgb;go_wp2
 go_loopw [6,14] (fun tv iv wr=>∃ (i:Nat) (φ':Nat→Nat) (T:List (Nat × Nat)),iv=.int .i64 ((i:Nat):Int)∧i≤T0.length∧Hid (Bk.CI n gs.length (img gs) (inT T0) φ' [] T)∧Hid (T.length≤i)∧Hid (∀ j (h:j<T0.length),j<i→Bk.rt φ' T0[j].1=Bk.rt φ' T0[j].2)∧Hid (ClM w wr fb n φ' (fb+1) gb (.slice ga gs.length gc) tv T)) (fun _ iv _=>T0.length - (intOf iv).toNat)
 case atStart=>exact ⟨0,φ,[],rfl,Nat.zero_le _,HCI,ι (Nat.le_refl _),HBS,CM⟩
 case round =>
  clear HCI HBS CM;obtain ⟨i,φ',T,rfl,hi,HCI,HTL,HBS,CM⟩:=hrel;obtain ⟨ta,tc,rfl,-⟩:=CM.out.t.shape;generalize wr=wd at *
  have hTb:T.length≤1000:=by have:=HTL.out; omega
  by_cases hil:i<T0.length
  case pos =>
   obtain ⟨pb,po,rfl,hpb,hpc⟩:=HPX.out (by omega);obtain ⟨z,hz⟩:∃ z,Hid (T0[i]'hil=z):=⟨_,ι rfl⟩;obtain ⟨q1,q2⟩:=hpc i hil;rw [hz.out] at q1 q2;have CP0:=ι (CL.up (CL.mk q1 hpb) CM.out.bel);have CP1:=ι (CL.up (CL.mk q2 hpb) CM.out.bel);obtain ⟨z1,z2⟩:=HR.out z (by rw [← hz.out]; exact List.getElem_mem hil);clear q1 q2 hpb hpc;obtain ⟨wx,hst,hx0,hx1,hbx⟩:=pr_fresh wd z;go_upto_region 4 with (fail);refine wp_region_list ?_;refine Rg.lr 15 (exec_bin (R:=.bool true) .lss _ _ _ rfl rfl rfl (b_lss _ (decide_eq_true (by omega)))) ?_;go_frame;go_upto_region 5 with (fail);refine wp_region_list ?_;refine Rg.lr 16 (exec_indexZ _ _ rfl Tryz.underlying176 szPr pb (po) (T0.length) (pc) (i) rfl rfl hil) ?_;go_frame;refine Rg.lr 17 (Rg.exec_load (v:=.agg #[.int .i64 ((z.1:Nat):Int),.int .i64 ((z.2:Nat):Int)]) _ _ rfl ⟨pb,po+i*2,none⟩ rfl (run_load2 CP0.out.cell CP1.out.cell)) ?_;go_frame
   refine Rg.lr 8 (exec_alloc2 rfl) ?_;go_frame;refine Rg.list_skip none rfl rfl (Rg.exec_store _ _ _ rfl _ rfl _ rfl hst) ?_;go_frame;have CX:=ι (show ClX w wx fb n φ' (fb+1) gb (.slice ga gs.length gc) (.slice ta T.length tc) T wd.heap.size z from ⟨CM.out.below hbx,hx0,hx1,fun e=>by have:=CM.out.f.lt; omega,fun e=>by have:=(CM.out.t.lt _ e).2; omega⟩);clear hst hx0 hx1 hbx CM CP0 CP1;generalize wd.heap.size=xb at *;obtain ⟨p1,hp1⟩:∃ p,Hid (z.1=p):=⟨_,ι rfl⟩;obtain ⟨p2,hp2⟩:∃ p,Hid (z.2=p):=⟨_,ι rfl⟩;have CX0:=ι CX.out.x0;have CX1:=ι CX.out.x1;rw [hp1.out] at CX0 z1;rw [hp2.out] at CX1 z2;have HZ:=ι (show z=(p1,p2) by rw [← hp1.out,← hp2.out]);go_upto_region 6 with (fail);refine wp_region_list ?_;refine Rg.lm 18 (.slice (some ⟨fb,0,none⟩) n n) ?_;go_frame;refine Rg.lr 19 (exec_indexArr _ _ rfl Tryz.underlying108 szI xb (0) (0) rfl rfl (by omega)) ?_;go_frame
   refine Rg.lr 20 (Rg.exec_load (v:=.int .i64 ((p1:Nat):Int)) _ _ rfl ⟨xb,0+0,none⟩ rfl (run_loadInt CX0.out.cell)) ?_;go_frame;refine Rg.lr 21 (exec_indexArr _ _ rfl Tryz.underlying108 szI xb (0) (1) rfl rfl (by omega)) ?_;go_frame;refine Rg.lr 22 (Rg.exec_load (v:=.int .i64 ((p2:Nat):Int)) _ _ rfl ⟨xb,0+1,none⟩ rfl (run_loadInt CX1.out.cell)) ?_;go_frame;refine list_ask (some 23) rfl rfl _ _ (exec_fn3 168 _ _ _ _ rfl rfl rfl rfl (Hecl0 _ _)) ?_;refine (unite_any fb n n φ' p1 p2 wx CX.out.m.f HCI.out.fo z1 z2 (by omega) (Nat.le_refl _)).mono ?_;rintro e1 w21 ⟨φ3,r,rfl,hrow3,hu3,hkp3⟩;have hcx3:=CX.out.uni hrow3 hkp3;have HU3:=ι hu3;clear hrow3 hu3;refine ⟨_,rfl,?_⟩;go_frame;clear CX0;clear CX1;replace CX:=ι hcx3;clear hkp3 hcx3;have HCI2:=ι (HCI.out.unite (img_lt HGG.out) HU3.out z1 z2 (.base (show (p1,p2)∈T0 by rw [← HZ.out,← hz.out]; exact List.getElem_mem hil)))
   have HBS2:=ι (show ∀ j (h:j<T0.length),j<i+1→Bk.rt φ3 T0[j].1=Bk.rt φ3 T0[j].2 from fun j h hj=>by
    by_cases e:j=i
    ·subst e
     have e2:T0[j]=(p1,p2):=hz.out.trans HZ.out;rw [e2];exact HU3.out.new
    ·obtain ⟨a1,a2⟩:=HR.out _ (List.getElem_mem h)
     exact HU3.out.keep _ _ a1 a2 (HBS.out j h (by omega)))
   cases r with
   | false =>
    have HT3:=ι (show T.length≤i+1 by have:=HTL.out; omega);have CM3:=ι CX.out.m;go_upto_region 8 with (fail);refine wp_region_list ?_;refine Rg.lr 28 (exec_bin (R:=.int .i64 (((i+1):Nat):Int)) .add _ _ _ rfl rfl rfl (b_add _ (by omega) (by omega))) ?_;go_frame;refine Rg.lm 14 (.int .i64 (((i+1):Nat):Int)) ?_;go_frame;go_wp2
    go_roundw
    case rel=>exact ⟨i+1,φ3,T,by go_num,hil,HCI2,HT3,HBS2,CM3⟩
    case measure=>simp [intOf]; omega
   | true =>
    have HT3:=ι (show (T++[(p1,p2)]).length≤i+1 by rw [List.length_append,List.length_singleton]; have:=HTL.out; omega);obtain ⟨a9,c9,X9,r1,hcx⟩:=CX.out.push (p1,p2) (by omega) 176;have CX0:=ι CX.out.x0;have CX1:=ι CX.out.x1;rw [hp1.out] at CX0;rw [hp2.out] at CX1;go_upto_region 7 with (fail);refine wp_region_list ?_;refine Rg.lm 24 (.slice ta T.length tc) ?_;go_frame;refine Rg.lr 25 (Rg.exec_load (v:=.agg #[.int .i64 ((p1:Nat):Int),.int .i64 ((p2:Nat):Int)]) _ _ rfl ⟨xb,0,none⟩ rfl (run_load2 CX0.out.cell CX1.out.cell)) ?_;go_frame;refine Rg.lr 26 (Rg.exec_buildSlice _ _ _ rfl (.agg #[.int .i64 ((p1:Nat):Int),.int .i64 ((p2:Nat):Int)]) rfl (run_build2p w21 _ _)) ?_;go_frame;refine Rg.lr 27 (Rg.exec_append _ _ _ rfl rfl rfl r1) ?_;go_frame;refine Rg.la 6 (.slice a9 (T.length+1) c9) ?_;go_frame;have CM3:=ι hcx.m;clear r1 hcx;go_upto_region 8 with (fail)
    refine wp_region_list ?_;refine Rg.lr 28 (exec_bin (R:=.int .i64 (((i+1):Nat):Int)) .add _ _ _ rfl rfl rfl (b_add _ (by omega) (by omega))) ?_;go_frame;refine Rg.lm 14 (.int .i64 (((i+1):Nat):Int)) ?_;go_frame;go_wp2
    go_roundw
    case rel=>exact ⟨i+1,φ3,T++[(p1,p2)],by go_num,hil,HCI2,HT3,HBS2,CM3⟩
    case measure=>simp [intOf]; omega
  case neg =>
   obtain rfl:i=T0.length:=by omega
   have hprt:=prt_le n φ';have G0:=ι CM.out.g0;have G1:=ι CM.out.g1;go_upto_region 4 with (fail);refine wp_region_list ?_;refine Rg.lr 15 (exec_bin (R:=.bool false) .lss _ _ _ rfl rfl rfl (b_lss _ (decide_eq_false (by omega)))) ?_;go_frame;go_upto_region 9 with (fail);refine wp_region_list ?_;refine Rg.lm 29 (.slice (some ⟨fb,0,none⟩) n n) ?_;go_frame;refine Rg.lr 30 (Rg.exec_load (v:=.agg #[.int .i64 ((n:Nat):Int),.slice ga gs.length gc]) _ _ rfl ⟨gb,0,none⟩ rfl (run_loadG G0.out.cell G1.out.cell)) ?_;go_frame;refine Rg.lm 31 (.slice ta T.length tc) ?_;go_frame;refine list_ask (some 32) rfl rfl _ _ (exec_fn3 169 _ _ _ _ rfl rfl rfl rfl (Hfcl2 _ _)) ?_;refine (fclose_any w wd fb n n φ' _ _ gs (fb+1) [] T (inT T0) CM.out.bel CM.out.lo CM.out.lB CM.out.sz (by omega) (Nat.le_refl _) HG.out HGG.out hgl CM.out.f CM.out.t (by omega) HCI.out).mono ?_;rintro e1 w61 ⟨φ4,D4,rfl,hrow4,hci4,hmo4,hb4⟩
   have R4:=ι hrow4;have HCI4:=ι hci4;have HMO4:=ι hmo4;have K4:=ι hb4;have hk4:=hb4;clear hrow4 hci4 hmo4;refine ⟨_,rfl,?_⟩;go_frame;clear hk4;have HLO:=ι CM.out.lo
   have HCL:=ι (HCI4.out.closed (img_lt HGG.out) (fun a b h=>HR.out (a,b) h) (fun a b h=>by
    obtain ⟨j,hj,e⟩:=List.getElem_of_mem (show (a,b)∈T0 from h);obtain ⟨a1,a2⟩:=HR.out _ (List.getElem_mem hj);have h1:=HMO4.out _ _ a1 a2 (HBS.out j hj hj);rw [e] at h1
    exact h1))
   go_upto_region 10 with (fail);refine wp_region_list ?_;refine Rg.lm 33 (.slice (some ⟨fb,0,none⟩) n n) ?_;go_frame;refine list_ask (some 34) rfl rfl _ _ (exec_fn1 170 _ _ rfl rfl (Hfcl3 _ _)) ?_;refine (labels_any fb n n φ4 w61 R4.out HCI4.out.fo R4.out.lt (by omega) (Nat.le_refl _)).mono ?_;rintro e1 w62 ⟨ob,L,rfl,ho1,ho2,ho3,ho4,ho5⟩;have HO:=ι (And.intro ho1 (And.intro ho2 ho3));have HL:=ι ho4;have K5:=ι (Rg.Kp.below K4.out ho5 (fun z e=>e▸HLO.out));have hk5:=ho5;clear ho1 ho2 ho3 ho4 ho5;refine ⟨_,rfl,?_⟩;go_frame;clear hk5;refine Rg.la 4 (.slice (some ⟨ob,0,none⟩) n n) ?_;go_frame;go_wp2;go_ret;exact ⟨_,L,rfl,⟨⟨ob,rfl,Nat.le_trans K4.out.size HO.out.1,HO.out.2.1,HO.out.2.2⟩,HL.out.len,K5.out⟩,HL.out.congr HCL.out⟩

structure OwZ (B:Nat) (W:World) (v:Value) (l:List Int):Prop where
 row:W.ownsRow B 3 1 v l.length (l.map (Value.int .i64))
theorem OwZ.below {B:Nat} {W W':World} {v:Value} {l:List Int} (h:OwZ B W v l) (hb:Below W.heap.size W W'):OwZ B W' v l:=⟨Rg.row_below h.row hb⟩
theorem OwZ.nil (B:Nat) (W:World):OwZ B W (.slice none 0 0) []:=⟨World.ownsRow_nil _ _ _ _⟩
theorem OwZ.sh {B:Nat} {W:World} {v:Value} {l:List Int} (h:OwZ B W v l):∃ a c,v=.slice a l.length c:=Rg.row_shape h.row
theorem OwZ.lt {B:Nat} {W:World} {v:Value} {l:List Int} (h:OwZ B W v l):∀ k,v.ownBlock=some k→B≤k∧k<W.heap.size:=fun k e=>World.ownsRow.lt h.row k e
theorem OwZ.kp {M:Nat→Prop} {B:Nat} {w w':World} {v:Value} {l:List Int} (h:OwZ B w v l) (hk:Rg.Kp M w w') (hM:∀ k,M k→v.ownBlock≠some k):OwZ B w' v l:=⟨rowKp h.row hk hM⟩
theorem OwZ.ints {B:Nat} {W:World} {v:Value} {l:List Int} (h:OwZ B W v l) (hl:l.length≤1000000000):Rg.Ints W v l:=Rg.Ints.of_row h.row hl
theorem OwZ.push {B:Nat} {W:World} {v:Value} {l:List Int} (h:OwZ B W v l) (hB:B≤W.heap.size) (x:Int) (hn:l.length<1000000) (ty:TypeId) :
  ∃ a c X,(Builtin.append_ #[36,36] ty #[v,.slice (some ⟨W.heap.size,0,none⟩) 1 1]).run Tryz.prog (W.alloc (.cells #[.int .i64 x] 3))=.ok (.slice a (l.length+1) c) X∧OwZ B X (.slice a (l.length+1) c) (l++[x])∧Rg.Kp (fun k=>v.ownBlock=some k) W X∧(∀ k,(Value.slice a (l.length+1) c).ownBlock=some k→v.ownBlock=some k∨W.heap.size≤k):=by
 have hb:Below W.heap.size W (W.alloc (.cells #[.int .i64 x] 3)):=(Below.refl _ _).alloc (Nat.le_refl _) _
 have e2:(W.alloc (.cells #[.int .i64 x] 3)).heap.size=W.heap.size+1:=by simp
 have c0:(W.alloc (.cells #[.int .i64 x] 3)).cell? ⟨W.heap.size,0,none⟩=some (.int .i64 x):=by rw [Rg.cellNew]; rfl
 have h':=Rg.row_below h.row hb;generalize W.alloc (.cells #[.int .i64 x] 3)=W1 at *;obtain ⟨v',X,r1,r2,r3,r4,a,c,rfl⟩:=app_run (P:=Tryz.prog) slInts ty h' (by omega) W.heap.size 1 (u:=.int .i64 x) c0 rfl hn;refine ⟨a,c,X,r1,⟨by rw [List.length_append,List.map_append]; exact r2⟩,Rg.Kp.trans (M:=fun k=>v.ownBlock=some k) ((Rg.Kp.of_below hb).weak fun _=>False.elim) (Rg.Kp.of_grown r3 fun _ e=>e) (fun _ _ e=>e),fun k e=>?_⟩
 rcases r4 with r4 | r4
 ·exact .inl (by rw [← r4]; exact e)
 ·rw [r4] at e
  injection e with e
  exact .inr (by omega)
theorem getI_at {l:List Int} {i:Nat} (h:i<l.length):l.getD i 0=l[i]:=by rw [List.getD_eq_getElem?_getD,List.getElem?_eq_getElem h,Option.getD_some]
def IxPost (l:List Int) (x:Int) (w:World) (e:Ending) (w':World):Prop:=∃ k:Nat,k<l.length∧e=.returned (.int .i64 ((k:Nat):Int))∧l.getD k 0=x∧(∀ j,j<k→l.getD j 0≠x)∧Below w.heap.size w w'
theorem index_in (v:Value) (l:List Int) (x:Int) (w:World) (h:Rg.Ints w v l) (hl:l.length≤1000) (hm:x∈l) :
  Calls Tryz.prog 171 #[v,.int .i64 x] w (IxPost l x w):=by
 obtain ⟨la,lc,rfl,-,-,-,hlx⟩:=h.shape;obtain ⟨lb,lo,rfl,hlb,hlc⟩:=hlx (List.length_pos_of_mem hm);have HLC:=ι hlc;have HM:=ι hm;have HN0:=ι (show ∀ j,j<0→l.getD j 0≠x from fun j h=>absurd h (Nat.not_lt_zero _));have K:=ι (Below.refl w.heap.size w);clear h hlx hlc hm
 go_enter Tryz.func171,Tryz.ntmps171
 go_upto_region 0 with (fail);refine wp_region_list ?_;refine Rg.la 4 (.int .i64 ((0:Nat):Int)) ?_;go_frame;go_upto_region 1 with (fail);refine wp_region_list ?_;refine Rg.lm 6 (.slice (some ⟨lb,lo,none⟩) l.length lc) ?_;go_frame;refine Rg.lr 7 (exec_len _ _ _ rfl Tryz.underlying36 _ _ _ rfl) ?_;go_frame;refine Rg.lm 8 (.int .i64 ((0:Nat):Int)) ?_;go_frame;go_wp2
 go_loopw [8] (fun kv wr=>∃ k:Nat,kv=.int .i64 ((k:Nat):Int)∧k≤l.length∧Hid (∀ j,j<k→l.getD j 0≠x)∧Hid (Below w.heap.size w wr)) (fun kv _=>l.length - (intOf kv).toNat)
 case atStart=>exact ⟨0,rfl,Nat.zero_le _,HN0,K⟩
 case round =>
  clear HN0 K;obtain ⟨k,rfl,hk,HN,K⟩:=hrel;generalize wr=wd at *
  by_cases hkl:k<l.length
  case neg =>
   exfalso
   obtain ⟨j,hj,e⟩:=List.getElem_of_mem HM.out;exact HN.out j (by omega) (by rw [getI_at hj]; exact e)
  case pos =>
   obtain ⟨y,hy⟩:∃ y,Hid (l[k]'hkl=y):=⟨_,ι rfl⟩;have hc:=HLC.out k hkl;rw [hy.out] at hc;have C0:=ι (CL.up (CL.mk hc hlb) K.out);clear hc
   by_cases hxy:x=y
   case pos =>
    subst hxy;go_upto_region 2 with (fail);refine wp_region_list ?_;refine Rg.lr 9 (exec_bin (R:=.bool true) .lss _ _ _ rfl rfl rfl (b_lss _ (decide_eq_true (by omega)))) ?_;go_frame;go_upto_region 3 with (fail);refine wp_region_list ?_;refine Rg.lm 10 (.int .i64 ((k:Nat):Int)) ?_;go_frame;refine Rg.la 5 (.int .i64 ((k:Nat):Int)) ?_;go_frame;go_upto_region 4 with (fail);refine wp_region_list ?_;refine Rg.lm 11 (.int .i64 x) ?_;go_frame;refine Rg.lm 12 (.slice (some ⟨lb,lo,none⟩) l.length lc) ?_;go_frame;refine Rg.lm 13 (.int .i64 ((k:Nat):Int)) ?_;go_frame;refine Rg.lr 14 (exec_indexS slInts _ _ rfl lb (lo) (l.length) lc (k) rfl rfl hkl) ?_;go_frame;refine Rg.lr 15 (Rg.exec_load (v:=.int .i64 x) _ _ rfl ⟨lb,lo+k,none⟩ rfl (run_loadInt C0.out.cell)) ?_;go_frame;refine Rg.lr 16 (exec_bin (R:=.bool true) .eql _ _ _ rfl rfl rfl (b_eql _ (decide_eq_true rfl))) ?_;go_frame
    go_upto_region 5 with (fail);refine wp_region_list ?_;refine Rg.lm 17 (.int .i64 ((k:Nat):Int)) ?_;go_frame;refine Rg.la 4 (.int .i64 ((k:Nat):Int)) ?_;go_frame;go_wp2;go_ret;exact ⟨k,hkl,rfl,by rw [getI_at hkl]; exact hy.out,HN.out,K.out⟩
   case neg =>
    have HN2:=ι (show ∀ j,j<k+1→l.getD j 0≠x from fun j hj=>by
     by_cases e:j=k
     ·subst e; rw [getI_at hkl,hy.out]; exact fun e=>hxy e.symm
     ·exact HN.out j (by omega))
    go_upto_region 2 with (fail);refine wp_region_list ?_;refine Rg.lr 9 (exec_bin (R:=.bool true) .lss _ _ _ rfl rfl rfl (b_lss _ (decide_eq_true (by omega)))) ?_;go_frame;go_upto_region 3 with (fail);refine wp_region_list ?_;refine Rg.lm 10 (.int .i64 ((k:Nat):Int)) ?_;go_frame;refine Rg.la 5 (.int .i64 ((k:Nat):Int)) ?_;go_frame;go_upto_region 4 with (fail);refine wp_region_list ?_;refine Rg.lm 11 (.int .i64 x) ?_;go_frame;refine Rg.lm 12 (.slice (some ⟨lb,lo,none⟩) l.length lc) ?_;go_frame;refine Rg.lm 13 (.int .i64 ((k:Nat):Int)) ?_;go_frame;refine Rg.lr 14 (exec_indexS slInts _ _ rfl lb (lo) (l.length) lc (k) rfl rfl hkl) ?_;go_frame;refine Rg.lr 15 (Rg.exec_load (v:=.int .i64 y) _ _ rfl ⟨lb,lo+k,none⟩ rfl (run_loadInt C0.out.cell)) ?_;go_frame;refine Rg.lr 16 (exec_bin (R:=.bool false) .eql _ _ _ rfl rfl rfl (b_eql _ (decide_eq_false hxy))) ?_;go_frame;go_upto_region 6 with (fail)
    refine wp_region_list ?_;refine Rg.lr 18 (exec_bin (R:=.int .i64 (((k+1):Nat):Int)) .add _ _ _ rfl rfl rfl (b_add _ (by omega) (by omega))) ?_;go_frame;refine Rg.lm 8 (.int .i64 (((k+1):Nat):Int)) ?_;go_frame;go_wp2
    go_roundw
    case rel=>exact ⟨k+1,by go_num,hkl,HN2,K⟩
    case measure=>simp [intOf]; omega

structure RZ (W:World) (b n:Nat) (g:Nat→Int):Prop where
 ex:∃ (m:Nat) (F:Nat→Value),n≤m∧W.rowIs b 3 m F∧∀ j,j<n→F j=.int .i64 (g j)
theorem RZ.set {W:World} {b n:Nat} {g g':Nat→Int} (h:RZ W b n g) {k:Nat} (hk:k<n) (v:Int) (hg:∀ j,j<n→(if j=k then v else g j)=g' j):RZ (W.setCell ⟨b,0+k,none⟩ (.int .i64 v)) b n g':=by
 obtain ⟨m,F,h1,h2,h3⟩:=h.ex;rw [Nat.zero_add];refine ⟨m,fun j=>if j=k then .int .i64 v else F j,h1,World.rowIs.set h2 k (.int .i64 v),fun j hj=>?_⟩;rw [← hg j hj]
 dsimp only
 by_cases e:j=k
 ·rw [if_pos e,if_pos e]
 ·rw [if_neg e,if_neg e]; exact h3 j hj
theorem RZ.cell {W:World} {b n:Nat} {g:Nat→Int} (h:RZ W b n g) {k:Nat} (hk:k<n) {v:Int} (e:g k=v):W.cell? ⟨b,0+k,none⟩=some (.int .i64 v):=by
 obtain ⟨m,F,h1,h2,h3⟩:=h.ex;rw [Nat.zero_add,← e,← h3 k hk];exact World.rowIs.cell h2 (by omega)
theorem RZ.fro {W:World} {b n:Nat} {g:Nat→Int} (h:RZ W b n g) (k:Nat):W.frozen? ⟨b,0+k,none⟩=false:=by
 obtain ⟨m,F,h1,h2,h3⟩:=h.ex;rw [Nat.zero_add];exact World.rowIs.frozen h2 k
theorem RZ.lt {W:World} {b n:Nat} {g:Nat→Int} (h:RZ W b n g):b<W.heap.size:=by
 obtain ⟨m,F,h1,⟨c,h2,_⟩,h3⟩:=h.ex;exact (Array.getElem?_eq_some_iff.1 h2).1
theorem RZ.kp {M:Nat→Prop} {W W':World} {b n:Nat} {g:Nat→Int} (h:RZ W b n g) (hk:Rg.Kp M W W') (hM:¬ M b):RZ W' b n g:=by
 obtain ⟨m,F,h1,h2,h3⟩:=h.ex;exact ⟨m,F,h1,rowIs_kp h2 hk hM,h3⟩
theorem RZ.below {W W':World} {b n:Nat} {g:Nat→Int} (h:RZ W b n g) (hb:Below W.heap.size W W'):RZ W' b n g:=h.kp (Rg.Kp.of_below hb (M:=fun _=>False)) id
theorem RZ.ints {W:World} {b n c:Nat} {g:Nat→Int} (h:RZ W b n g) (hn:n≤c) (hc:c≤maxLen) (hn2:n≤1000):Rg.Ints W (.slice (some ⟨b,0,none⟩) n c) ((List.range n).map g):=by
 refine ⟨some ⟨b,0,none⟩,c,by simp,by simpa using hn,hc,by simp [Rg.big]; omega,fun _=>⟨b,0,rfl,h.lt,fun i hi=>?_⟩⟩;rw [List.length_map,List.length_map,List.length_range] at hi;rw [h.cell hi rfl];simp
theorem RZ.own {B:Nat} {W:World} {v:Value} {l:List Int} (h:OwZ B W v l) (h1:0<l.length):∃ ob c,v=.slice (some ⟨ob,0,none⟩) l.length c∧B≤ob∧l.length≤c∧c≤maxLen∧RZ W ob l.length (fun j=>l.getD j 0):=by
 obtain ⟨h2,h3⟩:=h.row
 rcases h3 with ⟨_,h4⟩ | ⟨g,cap,cur,h4,hB,hc,h5,h6,h7,h8⟩
 ·omega
 ·refine ⟨g,cap,h4,hB,h5,h6,cap,fun i=>cur[i]?.getD undef,h5,⟨cur,hc,by omega,fun i hi=>?_⟩,fun j hj=>?_⟩
  ·show cur[i]?=some (cur[i]?.getD undef)
   rw [Array.getElem?_eq_getElem (by omega)]; rfl
  ·have e:=congrArg (fun l=>l[j]?) h8
   rw [List.getElem?_take_of_lt (by omega),List.getElem?_map,List.getElem?_eq_getElem hj] at e;show cur[j]?.getD undef=_;rw [← Array.getElem?_toList,e,getI_at hj];rfl
theorem OwZ.mono {B B':Nat} {W:World} {v:Value} {l:List Int} (h:OwZ B' W v l) (hB:B≤B'):OwZ B W v l:=by
 obtain ⟨h1,h2⟩:=h.row;refine ⟨h1,?_⟩
 rcases h2 with h2 | ⟨g,cap,cur,h3,h4,h5⟩
 ·exact .inl h2
 ·exact .inr ⟨g,cap,cur,h3,Nat.le_trans hB h4,h5⟩

theorem Hicl1 (args:Array Value) (w:World):(callFunc 87 args).run Tryz.prog w=.ok (.enter 87 args) w:=by kernel_rfl
def lsC (d:Int) (ll:List (List Int)) (a b:Int):Int:=if Ma.gchk d ll=0 then (if (0≤a∧a<d)∧(0≤b∧b<d) then 0 else 2) else Ma.gchk d ll
def LsAns (w:World) (d:Int) (ll:List (List Int)) (a b:Int) (v:Value):Prop :=
 (lsC d ll a b≠0∧v=.slice none 0 0)∨(lsC d ll a b=0∧∃ (D:Nat) (gs:List (List Nat)) (A B:Nat) (M:List Nat),d=D∧ll=gs.map Ma.ofN∧a=A∧b=B∧GG D gs∧1≤D∧D≤64∧A<D∧B<D∧Bk.IsLab D (Bk.BR gs.length (img gs) (Bk.onep A B)) M∧Rg.Ints w v (Ma.ofN M))
theorem LsAns.below {w w':World} {d:Int} {ll:List (List Int)} {a b:Int} {v:Value} (h:LsAns w d ll a b v) (hb:Below w.heap.size w w'):LsAns w' d ll a b v:=by
 rcases h with h | ⟨h0,D,gs,A,B,M,h1,h2,h3,h4,h5,h6,h7,h8,h9,h10,h11⟩
 ·exact .inl h
 ·exact .inr ⟨h0,D,gs,A,B,M,h1,h2,h3,h4,h5,h6,h7,h8,h9,h10,h11.below hb⟩
theorem ints_nil0 (w:World):Rg.Ints w (.slice none 0 0) []:=⟨none,0,by simp,by simp,by unfold maxLen; simp,by simp [Rg.big],fun h=>by simp at h⟩
theorem LsAns.both {w:World} {d:Int} {ll:List (List Int)} {a b:Int} {v v':Value} (h:LsAns w d ll a b v) (h':LsAns w d ll a b v'):∃ l,Rg.Ints w v l∧Rg.Ints w v' l:=by
 rcases h with ⟨h0,rfl⟩ | ⟨h0,D,gs,A,B,M,rfl,rfl,rfl,rfl,_,_,_,_,_,h9,h10⟩
 ·rcases h' with ⟨_,rfl⟩ | ⟨h1,_⟩
  ·exact ⟨[],ints_nil0 w,ints_nil0 w⟩
  ·exact absurd h1 h0
 ·rcases h' with ⟨h1,_⟩ | ⟨_,D',gs',A',B',M',e1,e2,e3,e4,_,_,_,_,_,k9,k10⟩
  ·exact absurd h0 h1
  ·obtain rfl:D=D':=by omega
   obtain rfl:=map_ofN_inj e2
   obtain rfl:A=A':=by omega
   obtain rfl:B=B':=by omega
   obtain rfl:=h9.uniq k9;exact ⟨_,h10,k10⟩
def BlPost (d:Int) (ll:List (List Int)) (a b:Int) (w:World) (e:Ending) (w':World):Prop:=∃ v,e=.returned (.tuple #[v,.int .i64 (lsC d ll a b)])∧LsAns w' d ll a b v∧Below w.heap.size w w'
theorem lsC_g {d:Int} {ll:List (List Int)} {a b c:Int} (h:Ma.gchk d ll=c) (hc:c≠0):lsC d ll a b=c:=by unfold lsC; rw [if_neg (by rw [h]; exact hc)]; exact h
theorem lsC_p {d:Int} {ll:List (List Int)} {a b:Int} (h:Ma.gchk d ll=0) (hc:¬ ((0≤a∧a<d)∧(0≤b∧b<d))):lsC d ll a b=2:=by unfold lsC; rw [if_pos h,if_neg hc]
theorem lsC_z {d:Int} {ll:List (List Int)} {a b:Int} (h:Ma.gchk d ll=0) (hc:(0≤a∧a<d)∧(0≤b∧b<d)):lsC d ll a b=0:=by unfold lsC; rw [if_pos h,if_pos hc]
theorem inT_one (A B:Nat):inT [(A,B)]=Bk.onep A B:=funext fun x=>funext fun y=>propext (by unfold inT Bk.onep; rw [List.mem_singleton,Prod.mk.injEq])
theorem prs_one {W W':World} {A B:Nat} (h:Below W.heap.size W W') (e:W'=W.alloc (.cells #[.int .i64 ((A:Nat):Int),.int .i64 ((B:Nat):Int)] 108)):Prs W' (.slice (some ⟨W.heap.size,0,none⟩) 1 1) [(A,B)]:=by
 subst e;refine ⟨⟨_,1,rfl,Nat.le_refl _,by show 1≤_; omega,fun _=>⟨W.heap.size,0,rfl,by simp,fun i hi=>?_⟩⟩⟩
 obtain rfl:i=0:=by have:i<1:=hi; omega
 exact ⟨by rw [Rg.cellNew]; rfl,by rw [Rg.cellNew]; rfl⟩
theorem bleastV (n:Nat) (gv pv:Value) (gs:List (List Nat)) (T0:List (Nat × Nat)) (w:World) (hn:n≤64) (hg:Rg.Rows w gv (gs.map Ma.ofN)) (hgg:GG n gs) (hgl:gs.length≤1000) (hp:Prs w pv T0) (hr:∀ z∈T0,z.1<n∧z.2<n) (hl:T0.length≤1000) :
  Calls Tryz.prog 87 #[.agg #[.int .i64 ((n:Nat):Int),gv],pv] w fun e w'=>∃ v L,e=.returned v∧Rg.Ints w' v (Ma.ofN L)∧Bk.IsLab n (Bk.BR gs.length (img gs) (inT T0)) L∧Below w.heap.size w w' :=
 (bleast_any n gv pv gs T0 w hn hg hgg hgl hp hr hl).mono fun _ _ ⟨v,M,h1,h2,h3⟩=>⟨v,M,h1,h2.ints (by omega),h3,h2.bel⟩
theorem RwAt.ints {w:World} {g n cap:Nat} {f:Nat→Int} (h:RwAt w g n f) (hc:n≤cap) (hm:cap≤maxLen) (hn:n≤1000):Rg.Ints w (.slice (some ⟨g,0,none⟩) n cap) ((List.range n).map f):=by
 refine Rg.Ints.mk (by simp) h.1 (by simpa using hc) hm (by simp; omega) fun i hi=>?_
 have hi':i<n:=by simpa using hi
 rw [Nat.zero_add,h.2.1 i hi'];simp
theorem Least_any (gv:Value) (d:Int) (ll:List (List Int)) (a b:Int) (w:World) (h:Rg.Rows w gv ll) :
  Calls Tryz.prog 26 #[.agg #[.int .i64 d,gv],.int .i64 a,.int .i64 b] w (BlPost d ll a b w):=by
 have HG9:=ι h;obtain ⟨ga,gc,rfl,hga,hba⟩:=GI.enter (d) h;have K:=ι hba;have G0:=ι hga;clear h hga hba;obtain ⟨ck,hck⟩:∃ c,Hid (Ma.gchk d ll=c):=⟨_,ι rfl⟩
 go_enter Tryz.func26,Tryz.ntmps26
 go_upto_region 0 with (fail);refine wp_region_list ?_;refine Rg.lr 3 (Rg.exec_box _ _ rfl rfl) ?_;go_frame;refine Rg.la 6 (.slice none 0 0) ?_;go_frame;refine Rg.la 7 (.int .i64 0) ?_;go_frame;generalize w.alloc (.cells #[.int .i64 d,.slice ga ll.length gc] 24)=w0 at *;go_upto_region 1 with (fail);refine wp_region_list ?_;refine Rg.lr 9 (Rg.exec_load (v:=.agg #[.int .i64 d,.slice ga ll.length gc]) _ _ rfl ⟨w.heap.size,0,none⟩ rfl (run_loadG G0.out.c0 G0.out.c1)) ?_;go_frame;refine list_ask (some 10) rfl rfl _ _ (exec_fn1 85 _ _ rfl rfl (vacl0 _ _)) ?_;refine (orbitCheck_any _ d ll w0 G0.out.rows).mono ?_;rintro e1 w1 ⟨rfl,hb⟩;rw [hck.out];refine ⟨_,rfl,?_⟩;go_frame;replace G0:=ι (G0.out.below hb);replace K:=ι (Rg.acc K.out hb);clear hb;refine Rg.la 8 (.int .i64 ck) ?_;go_frame
 by_cases h0:ck=0
 case neg =>
  skip
  go_upto_region 2 with (fail);refine wp_region_list ?_;refine Rg.lm 11 (.int .i64 ck) ?_;go_frame;refine Rg.lr 12 (exec_bin (R:=.bool true) .neq _ _ _ rfl rfl rfl (b_neqB _ (decide_eq_true h0))) ?_;go_frame;go_upto_region 3 with (fail);refine wp_region_list ?_;refine Rg.lm 13 (.int .i64 ck) ?_;go_frame;refine Rg.la 6 (.slice none 0 0) ?_;go_frame;refine Rg.la 7 (.int .i64 ck) ?_;go_frame;go_wp2
  go_ret2
  exact ⟨_,by rw [lsC_g hck.out h0]; rfl,.inl ⟨by rw [lsC_g hck.out h0]; exact h0,rfl⟩,K.out⟩
 case pos =>
  have HZ:=ι (hck.out.trans h0);go_upto_region 2 with (fail);refine wp_region_list ?_;refine Rg.lm 11 (.int .i64 ck) ?_;go_frame;refine Rg.lr 12 (exec_bin (R:=.bool false) .neq _ _ _ rfl rfl rfl (b_neqB _ (decide_eq_false (fun e=>e h0)))) ?_;go_frame;clear h0
  by_cases ha0:a<0
  case pos =>
   have HB:=ι (lsC_p (b:=b) HZ.out (fun h=>by omega:¬ ((0≤a∧a<d)∧(0≤b∧b<d))));go_upto_region 4 with (fail);refine wp_region_list ?_;refine Rg.lm 14 (.int .i64 a) ?_;go_frame;refine Rg.lr 15 (exec_bin (R:=.bool true) .lss _ _ _ rfl rfl rfl (b_lss _ (decide_eq_true ha0))) ?_;go_frame;refine Rg.lm 16 (.bool true) ?_;go_frame;refine listW_pass (some 17) (by kernel_rfl) rfl ?_;go_frame;refine listW_pass (some 18) (by kernel_rfl) rfl ?_;go_frame;refine listW_pass (some 19) (by kernel_rfl) rfl ?_;go_frame;refine listW_pass (some 20) (by kernel_rfl) rfl ?_;go_frame;refine Rg.lr 21 (exec_pickT (v:=.bool true) _ _ _ rfl rfl rfl) ?_;go_frame;refine Rg.lm 22 (.bool true) ?_;go_frame;refine listW_pass (some 23) (by kernel_rfl) rfl ?_;go_frame;refine listW_pass (some 24) (by kernel_rfl) rfl ?_;go_frame;refine Rg.lr 25 (exec_pickT (v:=.bool true) _ _ _ rfl rfl rfl) ?_;go_frame
   refine Rg.lm 26 (.bool true) ?_;go_frame;refine listW_pass (some 27) (by kernel_rfl) rfl ?_;go_frame;refine listW_pass (some 28) (by kernel_rfl) rfl ?_;go_frame;refine listW_pass (some 29) (by kernel_rfl) rfl ?_;go_frame;refine listW_pass (some 30) (by kernel_rfl) rfl ?_;go_frame;refine Rg.lr 31 (exec_pickT (v:=.bool true) _ _ _ rfl rfl rfl) ?_;go_frame;go_upto_region 5 with (fail);refine wp_region_list ?_;refine Rg.la 6 (.slice none 0 0) ?_;go_frame;refine Rg.la 7 (.int .i64 ((2:Nat):Int)) ?_;go_frame;go_wp2
   go_ret2
   exact ⟨_,by rw [HB.out]; rfl,.inl ⟨by rw [HB.out]; decide,rfl⟩,K.out⟩
  by_cases ha1:d≤a
  case pos =>
   have HB:=ι (lsC_p (b:=b) HZ.out (fun h=>by omega:¬ ((0≤a∧a<d)∧(0≤b∧b<d))));go_upto_region 4 with (fail);refine wp_region_list ?_;refine Rg.lm 14 (.int .i64 a) ?_;go_frame;refine Rg.lr 15 (exec_bin (R:=.bool false) .lss _ _ _ rfl rfl rfl (b_lss _ (decide_eq_false ha0))) ?_;go_frame;refine Rg.lm 16 (.bool false) ?_;go_frame;refine listW_run (some 17) rfl rfl (Rg.xm (.int .i64 a) _ rfl rfl) ?_;go_frame;refine listW_run (some 18) rfl rfl (exec_fieldG0 _ rfl rfl) ?_;go_frame;refine listW_run (some 19) rfl rfl (Rg.exec_load (v:=.int .i64 d) _ _ rfl ⟨w.heap.size,0,none⟩ rfl (run_loadInt G0.out.c0)) ?_;go_frame;refine listW_run (some 20) rfl rfl (exec_bin (R:=.bool true) .geq _ _ _ rfl rfl rfl (b_geq _ (decide_eq_true ha1))) ?_;go_frame;refine Rg.lr 21 (exec_pickF (v:=.bool true) _ _ _ rfl rfl rfl) ?_;go_frame;refine Rg.lm 22 (.bool true) ?_;go_frame;refine listW_pass (some 23) (by kernel_rfl) rfl ?_;go_frame
   refine listW_pass (some 24) (by kernel_rfl) rfl ?_;go_frame;refine Rg.lr 25 (exec_pickT (v:=.bool true) _ _ _ rfl rfl rfl) ?_;go_frame;refine Rg.lm 26 (.bool true) ?_;go_frame;refine listW_pass (some 27) (by kernel_rfl) rfl ?_;go_frame;refine listW_pass (some 28) (by kernel_rfl) rfl ?_;go_frame;refine listW_pass (some 29) (by kernel_rfl) rfl ?_;go_frame;refine listW_pass (some 30) (by kernel_rfl) rfl ?_;go_frame;refine Rg.lr 31 (exec_pickT (v:=.bool true) _ _ _ rfl rfl rfl) ?_;go_frame;go_upto_region 5 with (fail);refine wp_region_list ?_;refine Rg.la 6 (.slice none 0 0) ?_;go_frame;refine Rg.la 7 (.int .i64 ((2:Nat):Int)) ?_;go_frame;go_wp2
   go_ret2
   exact ⟨_,by rw [HB.out]; rfl,.inl ⟨by rw [HB.out]; decide,rfl⟩,K.out⟩
  by_cases hb0:b<0
  case pos =>
   have HB:=ι (lsC_p (a:=a) HZ.out (fun h=>by omega:¬ ((0≤a∧a<d)∧(0≤b∧b<d))));go_upto_region 4 with (fail);refine wp_region_list ?_;refine Rg.lm 14 (.int .i64 a) ?_;go_frame;refine Rg.lr 15 (exec_bin (R:=.bool false) .lss _ _ _ rfl rfl rfl (b_lss _ (decide_eq_false ha0))) ?_;go_frame;refine Rg.lm 16 (.bool false) ?_;go_frame;refine listW_run (some 17) rfl rfl (Rg.xm (.int .i64 a) _ rfl rfl) ?_;go_frame;refine listW_run (some 18) rfl rfl (exec_fieldG0 _ rfl rfl) ?_;go_frame;refine listW_run (some 19) rfl rfl (Rg.exec_load (v:=.int .i64 d) _ _ rfl ⟨w.heap.size,0,none⟩ rfl (run_loadInt G0.out.c0)) ?_;go_frame;refine listW_run (some 20) rfl rfl (exec_bin (R:=.bool false) .geq _ _ _ rfl rfl rfl (b_geq _ (decide_eq_false ha1))) ?_;go_frame;refine Rg.lr 21 (exec_pickF (v:=.bool false) _ _ _ rfl rfl rfl) ?_;go_frame;refine Rg.lm 22 (.bool false) ?_;go_frame;refine listW_run (some 23) rfl rfl (Rg.xm (.int .i64 b) _ rfl rfl) ?_;go_frame
   refine listW_run (some 24) rfl rfl (exec_bin (R:=.bool true) .lss _ _ _ rfl rfl rfl (b_lss _ (decide_eq_true hb0))) ?_;go_frame;refine Rg.lr 25 (exec_pickF (v:=.bool true) _ _ _ rfl rfl rfl) ?_;go_frame;refine Rg.lm 26 (.bool true) ?_;go_frame;refine listW_pass (some 27) (by kernel_rfl) rfl ?_;go_frame;refine listW_pass (some 28) (by kernel_rfl) rfl ?_;go_frame;refine listW_pass (some 29) (by kernel_rfl) rfl ?_;go_frame;refine listW_pass (some 30) (by kernel_rfl) rfl ?_;go_frame;refine Rg.lr 31 (exec_pickT (v:=.bool true) _ _ _ rfl rfl rfl) ?_;go_frame;go_upto_region 5 with (fail);refine wp_region_list ?_;refine Rg.la 6 (.slice none 0 0) ?_;go_frame;refine Rg.la 7 (.int .i64 ((2:Nat):Int)) ?_;go_frame;go_wp2
   go_ret2
   exact ⟨_,by rw [HB.out]; rfl,.inl ⟨by rw [HB.out]; decide,rfl⟩,K.out⟩
  by_cases hb1:d≤b
  case pos =>
   have HB:=ι (lsC_p (a:=a) HZ.out (fun h=>by omega:¬ ((0≤a∧a<d)∧(0≤b∧b<d))));go_upto_region 4 with (fail);refine wp_region_list ?_;refine Rg.lm 14 (.int .i64 a) ?_;go_frame;refine Rg.lr 15 (exec_bin (R:=.bool false) .lss _ _ _ rfl rfl rfl (b_lss _ (decide_eq_false ha0))) ?_;go_frame;refine Rg.lm 16 (.bool false) ?_;go_frame;refine listW_run (some 17) rfl rfl (Rg.xm (.int .i64 a) _ rfl rfl) ?_;go_frame;refine listW_run (some 18) rfl rfl (exec_fieldG0 _ rfl rfl) ?_;go_frame;refine listW_run (some 19) rfl rfl (Rg.exec_load (v:=.int .i64 d) _ _ rfl ⟨w.heap.size,0,none⟩ rfl (run_loadInt G0.out.c0)) ?_;go_frame;refine listW_run (some 20) rfl rfl (exec_bin (R:=.bool false) .geq _ _ _ rfl rfl rfl (b_geq _ (decide_eq_false ha1))) ?_;go_frame;refine Rg.lr 21 (exec_pickF (v:=.bool false) _ _ _ rfl rfl rfl) ?_;go_frame;refine Rg.lm 22 (.bool false) ?_;go_frame;refine listW_run (some 23) rfl rfl (Rg.xm (.int .i64 b) _ rfl rfl) ?_;go_frame
   refine listW_run (some 24) rfl rfl (exec_bin (R:=.bool false) .lss _ _ _ rfl rfl rfl (b_lss _ (decide_eq_false hb0))) ?_;go_frame;refine Rg.lr 25 (exec_pickF (v:=.bool false) _ _ _ rfl rfl rfl) ?_;go_frame;refine Rg.lm 26 (.bool false) ?_;go_frame;refine listW_run (some 27) rfl rfl (Rg.xm (.int .i64 b) _ rfl rfl) ?_;go_frame;refine listW_run (some 28) rfl rfl (exec_fieldG0 _ rfl rfl) ?_;go_frame;refine listW_run (some 29) rfl rfl (Rg.exec_load (v:=.int .i64 d) _ _ rfl ⟨w.heap.size,0,none⟩ rfl (run_loadInt G0.out.c0)) ?_;go_frame;refine listW_run (some 30) rfl rfl (exec_bin (R:=.bool true) .geq _ _ _ rfl rfl rfl (b_geq _ (decide_eq_true hb1))) ?_;go_frame;refine Rg.lr 31 (exec_pickF (v:=.bool true) _ _ _ rfl rfl rfl) ?_;go_frame;go_upto_region 5 with (fail);refine wp_region_list ?_;refine Rg.la 6 (.slice none 0 0) ?_;go_frame;refine Rg.la 7 (.int .i64 ((2:Nat):Int)) ?_;go_frame
   go_wp2
   go_ret2
   exact ⟨_,by rw [HB.out]; rfl,.inl ⟨by rw [HB.out]; decide,rfl⟩,K.out⟩
  have HB:=ι (lsC_z (a:=a) (b:=b) HZ.out ⟨by omega,by omega⟩);go_upto_region 4 with (fail);refine wp_region_list ?_;refine Rg.lm 14 (.int .i64 a) ?_;go_frame;refine Rg.lr 15 (exec_bin (R:=.bool false) .lss _ _ _ rfl rfl rfl (b_lss _ (decide_eq_false ha0))) ?_;go_frame;refine Rg.lm 16 (.bool false) ?_;go_frame;refine listW_run (some 17) rfl rfl (Rg.xm (.int .i64 a) _ rfl rfl) ?_;go_frame;refine listW_run (some 18) rfl rfl (exec_fieldG0 _ rfl rfl) ?_;go_frame;refine listW_run (some 19) rfl rfl (Rg.exec_load (v:=.int .i64 d) _ _ rfl ⟨w.heap.size,0,none⟩ rfl (run_loadInt G0.out.c0)) ?_;go_frame;refine listW_run (some 20) rfl rfl (exec_bin (R:=.bool false) .geq _ _ _ rfl rfl rfl (b_geq _ (decide_eq_false ha1))) ?_;go_frame;refine Rg.lr 21 (exec_pickF (v:=.bool false) _ _ _ rfl rfl rfl) ?_;go_frame;refine Rg.lm 22 (.bool false) ?_;go_frame;refine listW_run (some 23) rfl rfl (Rg.xm (.int .i64 b) _ rfl rfl) ?_;go_frame
  refine listW_run (some 24) rfl rfl (exec_bin (R:=.bool false) .lss _ _ _ rfl rfl rfl (b_lss _ (decide_eq_false hb0))) ?_;go_frame;refine Rg.lr 25 (exec_pickF (v:=.bool false) _ _ _ rfl rfl rfl) ?_;go_frame;refine Rg.lm 26 (.bool false) ?_;go_frame;refine listW_run (some 27) rfl rfl (Rg.xm (.int .i64 b) _ rfl rfl) ?_;go_frame;refine listW_run (some 28) rfl rfl (exec_fieldG0 _ rfl rfl) ?_;go_frame;refine listW_run (some 29) rfl rfl (Rg.exec_load (v:=.int .i64 d) _ _ rfl ⟨w.heap.size,0,none⟩ rfl (run_loadInt G0.out.c0)) ?_;go_frame;refine listW_run (some 30) rfl rfl (exec_bin (R:=.bool false) .geq _ _ _ rfl rfl rfl (b_geq _ (decide_eq_false hb1))) ?_;go_frame;refine Rg.lr 31 (exec_pickF (v:=.bool false) _ _ _ rfl rfl rfl) ?_;go_frame;obtain ⟨D,gs,hD,hgs,hgg,hD1,hD2,hgl⟩:=gchk_ok HZ.out;obtain ⟨A,hA⟩:∃ A:Nat,a=A:=⟨a.toNat,by omega⟩;obtain ⟨B,hB⟩:∃ A:Nat,b=A:=⟨b.toNat,by omega⟩
  subst hD hgs hA hB
  have hAD:A<D:=by omega
  have hBD:B<D:=by omega
  have HGG:=ι hgg
  have hgl2:(gs.map Ma.ofN).length≤16:=by rw [List.length_map]; exact hgl
  clear ha0 ha1 hb0 hb1 hgg;go_upto_region 6 with (fail);refine wp_region_list ?_;refine Rg.lr 32 (Rg.exec_load (v:=.agg #[.int .i64 ((D:Nat):Int),.slice ga (gs.map Ma.ofN).length gc]) _ _ rfl ⟨w.heap.size,0,none⟩ rfl (run_loadG G0.out.c0 G0.out.c1)) ?_;go_frame;refine Rg.lm 33 (.int .i64 ((A:Nat):Int)) ?_;go_frame;refine Rg.lm 34 (.int .i64 ((B:Nat):Int)) ?_;go_frame;refine Rg.lr 35 (exec_build2 _ _ rfl rfl rfl) ?_;go_frame;have hpr:=prs_one (W:=w1) (A:=A) (B:=B) ((Below.refl _ _).alloc (Nat.le_refl _) _) rfl;refine Rg.lr 36 (Rg.exec_buildSlice _ _ _ rfl (.agg #[.int .i64 ((A:Nat):Int),.int .i64 ((B:Nat):Int)]) rfl (run_build2p w1 _ _)) ?_;go_frame;have hb:=(Below.refl w1.heap.size w1).alloc (Nat.le_refl _) (.cells #[.int .i64 ((A:Nat):Int),.int .i64 ((B:Nat):Int)] 108);generalize w1.alloc (.cells #[.int .i64 ((A:Nat):Int),.int .i64 ((B:Nat):Int)] 108)=w2 at *
  replace G0:=ι (G0.out.below hb);replace K:=ι (Rg.acc K.out hb);clear hb;have PR:=ι hpr;clear hpr;refine list_ask (some 37) rfl rfl _ _ (exec_fn 87 _ _ _ rfl rfl rfl (Hicl1 _ _)) ?_;refine (bleastV D _ _ gs [(A,B)] w2 hD2 G0.out.rows HGG.out (by omega) PR.out (fun z hz=>by rw [List.mem_singleton] at hz; subst hz; exact ⟨hAD,hBD⟩) (by show 1≤1000; omega)).mono ?_;rintro e1 w3 ⟨v,M,rfl,hin,hlab,hb⟩;have HIN:=ι hin;have HLB:=ι hlab;clear hin hlab;refine ⟨_,rfl,?_⟩;go_frame;replace G0:=ι (G0.out.below hb);replace PR:=ι (PR.out.below hb);replace K:=ι (Rg.acc K.out hb);clear hb;refine Rg.la 6 (v) ?_;go_frame;refine Rg.la 7 (.int .i64 ((0:Nat):Int)) ?_;go_frame;rw [inT_one] at HLB;go_wp2
  go_ret2
  exact ⟨_,by rw [HB.out]; rfl,.inr ⟨HB.out,D,gs,A,B,M,rfl,rfl,rfl,rfl,HGG.out,hD1,hD2,hAD,hBD,HLB.out,HIN.out⟩,K.out⟩
end Go.Proofs.YthehbckogieimaaGreat

namespace Go.Proofs.YthehbckogieimaaGreat
open Go.RowKit
open Go.Proofs
open Go.Proofs.Ob
open Go.Proofs.Cm (Gd Gr)
attribute [local irreducible] Go.Calls Go.wpList
theorem ptE_good {gs:List (List Nat)} {D p:Nat} (hk:Ma.gchk ((D:Nat):Int) (gs.map Ma.ofN)=0) (hp:p<D):ptE ((D:Nat):Int) (gs.map Ma.ofN) ((p:Nat):Int)=0:=by
 unfold ptE;rw [if_pos hk,if_pos];exact decide_eq_true (by omega)
end Go.Proofs.YthehbckogieimaaGreat
