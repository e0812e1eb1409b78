/- Lemmas and contracts on the way to the statement; no condition of their own beyond those written. -/
import Derived.Test.YtdnmmibchbceeaaGreatXDctoCi
import Derived.Stop.BytesEq
import Derived.MapKept
import Derived.ChangeMaps5
import Derived.WalkSpells
import Derived.WalkLawsBesides
import Derived.Maps.AppendAt
import Derived.OwnWalk
import Derived.OrdersHeld
import Derived.Deep.OwnRows
import Derived.WalkKit
import Derived.Lib.Hide
import Derived.RangeFuncWrites
import Derived.RangeFuncNested
import Derived.RangeFuncBox
import Derived.RangeFuncLeaves
import Derived.Shelf.Abstract
import Derived.OwnWalkIn
import Derived.TacticsInMore
import Derived.LoopNIn
import Derived.LoopIn
import Derived.Sort.CutIn
import Derived.Deep.CutRange
import Derived.Deep.CutBlock
import Derived.IntWalk
import Derived.Great.BuildSlice
import Derived.ArgAppend
import Derived.Laws.CopyOwn
import Derived.StillTailTactics
import Derived.Deep.MidRow
import Derived.Laws.OwnMore
import Derived.Test.YtdnmmibchbceeaaGreatProg
import Derived.Outline
import Derived.Deep.DeepFit
import Derived.BigQuiet
import Derived.Deep.QuietTactic
import Derived.Sort.OwnSortedInts
import Derived.WideMake
import Derived.Shelf.Sort.Plain
import Derived.Lib.ConvBytes
import Derived.ChangeKeysEq
import Derived.Laws.Cells
import Derived.Laws.Rows
import Derived.Laws.Tables
import Derived.Deep.WholeRow
import Derived.OrdersIn
import Derived.TacticsIn
import Derived.Deep.LoopGhost
import Derived.Lib.SlicesSearch
import Derived.Shelf.SlSortCmp.Whole1
import Derived.Ground.SlsfProg
import Derived.Lib.SmallJoins
import Derived.Deep.Matrix
set_option linter.unusedVariables false
set_option linter.unusedSimpArgs false
set_option maxRecDepth 100000
set_option maxHeartbeats 8000000
namespace Go.Proofs.YtdnmmibchbceeaaGreat
open Go.RowKit
open Go.Proofs
open Go.Proofs.Ob
attribute [local irreducible] Go.Calls Go.wpList
theorem Dicl0 (args:Array Value) (w:World):(callFunc 91 args).run Tryz.prog w=.ok (.enter 91 args) w:=by kernel_rfl
section
variable {md:Region.Mode} {ops:Array Oper} {Q:Exit→Act→World→Prop} {S:Array Bool→World→Prop}
theorem duo2 {i j di dj:Nat} {I:World→Prop} {R1 R2:Value→World→Prop} {R:Value→Value→World→Prop} {n:Nat} {l:Array Bool} {a:Act} {w:World} (hS:∀ l W,I W→S l W) (ij:i≠j) (dij:di≠dj)
  (r0:Region.ready md ops l=[i,j]) (ri:Region.ready md ops (l.setIfInBounds i true)=[j]) (rj:Region.ready md ops (l.setIfInBounds j true)=[i])
  (h1:Rg.Does Tryz.prog ops Q i di I R1 (fun _ _=>True) a w) (h1':∀ u W,I W→R1 u W→Rg.Does Tryz.prog ops Q j dj I (fun v W'=>R u v W') (fun _ _=>True) (a.put (some di) u) W)
  (h2:Rg.Does Tryz.prog ops Q j dj I R2 (fun _ _=>True) a w) (h2':∀ v W,I W→R2 v W→Rg.Does Tryz.prog ops Q i di I (fun u W'=>R u v W') (fun _ _=>True) (a.put (some dj) v) W)
  (h:∀ W u v,I W→R u v W→Rg.Any Tryz.prog md ops Q S n ((l.setIfInBounds i true).setIfInBounds j true) ((a.put (some di) u).put (some dj) v) W) :
  Rg.Any Tryz.prog md ops Q S (n+2) l a w:=by
 refine Rg.Any.two r0 ?_ ?_
 ·refine wpOp_mono ?_ h1
  rintro c W ⟨u,rfl,g1,g2,-⟩;refine ⟨hS _ _ g1,Rg.Any.one ri ?_⟩;refine wpOp_mono ?_ (h1' u W g1 g2);rintro c W' ⟨v,rfl,e1,e2,-⟩;exact ⟨hS _ _ e1,h _ _ _ e1 e2⟩
 ·refine wpOp_mono ?_ h2
  rintro c W ⟨v,rfl,g1,g2,-⟩;refine ⟨hS _ _ g1,Rg.Any.one rj ?_⟩;refine wpOp_mono ?_ (h2' v W g1 g2);rintro c W' ⟨u,rfl,e1,e2,-⟩;have:=h _ _ _ e1 e2;rw [Rg.put_comm _ _ _ dij,Array.setIfInBounds_comm _ _ ij] at this;exact ⟨hS _ _ e1,this⟩
theorem dRun {i d:Nat} {I:World→Prop} {R:Value→World→Prop} {oi:Oper} {b:Act} {W W':World} {v:Value} (hi:ops[i]?=some oi) (hd:oi.dst=some d) (hw:Region.wanted oi (yielded ops b.tmps)=true)
  (hr:(execOp b.eval oi).run Tryz.prog W=.ok (.value v) W') (h1:I W') (h2:R v W'):Rg.Does Tryz.prog ops Q i d I R (fun _ _=>True) b W :=
 Rg.wpOp_value (some d) hi hd hw hr ⟨v,rfl,h1,h2,trivial⟩
theorem dCall {i d:Nat} {I:World→Prop} {R:Value→World→Prop} {oi:Oper} {b:Act} {W:World} (hi:ops[i]?=some oi) (hd:oi.dst=some d) (hw:Region.wanted oi (yielded ops b.tmps)=true) (f:FuncId) (args:Array Value)
  (hr:(execOp b.eval oi).run Tryz.prog W=.ok (.enter f args) W) (hc:Calls Tryz.prog f args W fun e W'=>∃ v,e=.returned v∧I W'∧R v W'):Rg.Does Tryz.prog ops Q i d I R (fun _ _=>True) b W:=by
 unfold Rg.Does wpOp;simp only [hi,hw,if_true]
 left
 unfold Oper.wp;rw [hr,Oper.upon_enter];refine hc.mono fun e w' ⟨v,h1,h2,h3⟩=>?_;subst h1;exact ⟨v,by rw [hd],h2,h3,trivial⟩
end
def NewPI (F:Nat→Prop) (V:World) (x:List Nat) (i j:Int) (u v:Value) (W:World):Prop :=
 (∀ k,u.ownBlock=some k→V.heap.size≤k∧k<W.heap.size)∧FP (fun k=>F k∨u.ownBlock=some k) W u x∧∃ g,v=.slice (some ⟨g,0,none⟩) 2 2∧V.heap.size≤g∧u.ownBlock≠some g∧W.ownsRow V.heap.size 3 1 v 2 [.int .i64 i,.int .i64 j]
theorem exec_buildSlice2 {P:Program} {o:Oper} {a:Act} {w w':World} {v:Value} (t:TypeId) (n:Nat) (x y:Operand) (ho:o.op=.buildSlice t n #[(0,x),(1,y)]) {xv yv:Value} (hx:a.eval x=xv) (hy:a.eval y=yv)
  (hr:(Instr.buildSlice t n #[(0,xv),(1,yv)]).run P w=.ok v w'):(execOp a.eval o).run P w=.ok (.value v) w':=by
 unfold execOp;simp only [ho,Sem.run_bind,Sem.run_pure,List.map_toArray,List.map_cons,List.map_nil,hx,hy]
 first | (rw [hr]; rfl) | (erw [hr]; rfl) | simp [hr]
theorem np_own {B:Nat} {W:World} {u:Value} {x:List Nat} (h:Rg.NP W u x) (hf:Rg.Fresh B u) (h1:1≤x.length):∀ k,u.ownBlock=some k→B≤k∧k<W.heap.size:=by
 obtain ⟨a,c,e,_,_,_,hc⟩:=h.shape;obtain ⟨b,o,e1,hb,_⟩:=hc (by omega);subst e1;intro k hk;rw [e] at hk;have hk:some b=some k:=hk
 injection hk with hk
 subst hk;exact ⟨hf _ _ _ e,hb⟩
theorem np_fp {F:Nat→Prop} {W:World} {u:Value} {x:List Nat} (h:Rg.NP W u x):FP (fun k=>F k∨u.ownBlock=some k) W u x:=by
 obtain ⟨a,cap,h1,h2,h3,h4,h5⟩:=h;refine ⟨a,cap,h1,h2,h3,h4,fun h0=>?_⟩;obtain ⟨b,o,e1,e2,e3⟩:=h5 h0;subst e1;exact ⟨b,o,rfl,e2,.inr (by rw [h1]; rfl),e3⟩
theorem row2_new {B:Nat} (W:World) (hB:B≤W.heap.size) (i j:Int):(W.alloc (.cells #[.int .i64 i,.int .i64 j] 3)).ownsRow B 3 1 (.slice (some ⟨W.heap.size,0,none⟩) 2 2) 2 [.int .i64 i,.int .i64 j] :=
 ⟨rfl,.inr ⟨W.heap.size,2,#[.int .i64 i,.int .i64 j],rfl,hB,by unfold World.alloc; simp,Nat.le_refl _,by unfold maxLen; omega,rfl,rfl⟩⟩
theorem NewPI.one {F:Nat→Prop} {V W:World} {x:List Nat} {u:Value} (h:Rg.NP W u x) (hf:Rg.Fresh V.heap.size u) (h1:1≤x.length) (hb:Below V.heap.size V W) (i j:Int) :
  NewPI F V x i j u (.slice (some ⟨W.heap.size,0,none⟩) 2 2) (W.alloc (.cells #[.int .i64 i,.int .i64 j] 3)):=by
 have hn:Below W.heap.size W (W.alloc (.cells #[.int .i64 i,.int .i64 j] 3)):=(Below.refl _ _).alloc (Nat.le_refl _) _;have ho:=np_own h hf h1;exact ⟨fun k e=>⟨(ho k e).1,Nat.lt_of_lt_of_le (ho k e).2 hn.size⟩,np_fp (Rg.NP.below h hn),_,rfl,hb.size,fun e=>Nat.lt_irrefl _ (ho _ e).2,row2_new W hb.size i j⟩
theorem NewPI.two {F:Nat→Prop} {V W:World} {x:List Nat} {u:Value} (i j:Int) (h:Rg.NPF (V.alloc (.cells #[.int .i64 i,.int .i64 j] 3)) W u x) (h1:1≤x.length) (hb:Below (V.alloc (.cells #[.int .i64 i,.int .i64 j] 3)).heap.size (V.alloc (.cells #[.int .i64 i,.int .i64 j] 3)) W) :
  NewPI F V x i j u (.slice (some ⟨V.heap.size,0,none⟩) 2 2) W:=by
 have ho:=np_own h.1 h.2 h1
 have e:(V.alloc (.cells #[.int .i64 i,.int .i64 j] 3)).heap.size=V.heap.size+1:=by simp
 exact ⟨fun k q=>⟨by have:=(ho k q).1; omega,(ho k q).2⟩,np_fp h.1,_,rfl,Nat.le_refl _,fun q=>by have:=(ho _ q).1; omega,Rg.row_below (row2_new V (Nat.le_refl _) i j) hb⟩
theorem Gw.grow {F0 M0 F M P Q:Nat→Prop} {w V W:World} (h:Gw F0 M0 w F M V) (hb:Below V.heap.size V W) (hQ:∀ k,Q k→V.heap.size≤k∧k<W.heap.size) (hP:∀ k,P k→V.heap.size≤k):Gw F0 M0 w (fun k=>F k∨Q k) (fun k=>M k∨P k) W:=by
 have hs:=h.kp.size;refine ⟨⟨fun k hk=>.inl (h.kg.sub k hk),fun k hk=>hk.elim (fun e=>Nat.lt_of_lt_of_le (h.kg.lt k e) hb.size) (fun e=>(hQ k e).2),KF.trans h.kg.kf (KF.of_below (F:=F) hb) h.kg.sub⟩,Rg.Kp.trans (M:=M0) h.kp (Rg.Kp.of_below (M:=M0) hb) (fun _ _ e=>e),fun k hk=>hk.elim (h.nF k) (fun e=>.inr (Nat.le_trans hs (hQ k e).1)),fun k hk=>hk.elim (h.nM k) (fun e=>.inr (Nat.le_trans hs (hP k e)))⟩
theorem Gw.fresh {F0 M0 F M P:Nat→Prop} {w V W:World} (h:Gw F0 M0 w F M V) (hb:Below V.heap.size V W) (hP:∀ k,P k→V.heap.size≤k):Gw F0 M0 w F (fun k=>M k∨P k) W:=by
 have hs:=h.kp.size;exact ⟨h.kg.kf' (KF.of_below (F:=F) hb),Rg.Kp.trans (M:=M0) h.kp (Rg.Kp.of_below (M:=M0) hb) (fun _ _ e=>e),h.nF,fun k hk=>hk.elim (h.nM k) (fun e=>.inr (Nat.le_trans hs (hP k e)))⟩
theorem own_eq {b k n c:Nat} (h:(Value.slice (some ⟨b,0,none⟩) n c).ownBlock=some k):b≤k:=by
 have h:some b=some k:=h
 injection h with h
 exact Nat.le_of_eq h
theorem NewPI.tm {B:Nat} {F:Nat→Prop} {tb mb N:Nat} {V W:World} {S:List Stp} {nx:Nat} {es:List En} {sv lv:Value} (h:TbM B F tb mb N V S nx es es es sv lv) (hb:Below V.heap.size V W) {x:List Nat} {i j:Int} {u v:Value} (hn:NewPI F V x i j u v W):TbM B (fun k=>F k∨u.ownBlock=some k) tb mb N W S nx es es es sv lv:=by
 have hl:=h.Mlt;refine (h.below hb).mono (fun k=>.inl) (fun k hk=>hk.elim (fun e=>Nat.lt_of_lt_of_le (h.Flt k e) hb.size) (fun e=>(hn.1 k e).2)) (fun k hk hm=>hk.elim (fun e=>h.nF k e hm) (fun e=>?_));have:=(hn.1 k e).1;have:=hl k hm;omega
theorem NewPI.rw {F M:Nat→Prop} {V W:World} {x:List Nat} {i j:Nat} {u v:Value} (hn:NewPI F V x ((i:Nat):Int) ((j:Nat):Int) u v W) (hb:Below V.heap.size V W) (hF:∀ k,F k→k<V.heap.size) (hM:∀ k,M k→k<V.heap.size):RwI (fun k=>F k∨u.ownBlock=some k) M W v ([i,j].map fun k:Nat=>((k:Nat):Int)):=by
 obtain ⟨h1,h2,g,rfl,hg,hne,how⟩:=hn;refine ⟨⟨V.heap.size,hb.size,how⟩,fun k e=>?_⟩;have hk:=World.ownsRow.lt how k e;have e:some g=some k:=e
 injection e with e
 subst e;exact ⟨fun h=>h.elim (fun q=>by have:=hF _ q; omega) hne,fun q=>by have:=hM _ q; omega,hk.2⟩
structure GrF (F:Nat→Prop) (W:World) (gb:Nat) (gs:List (List Nat)) (ga:Option Addr) (gc:Nat):Prop where
 c1:CF F W gb 1 (.slice ga gs.length gc)
 rows:Rg.FRows F W (.slice ga gs.length gc) (gs.map Ma.ofN)
theorem FRows.kfx {F:Nat→Prop} {w w':World} {v:Value} {ll:List (List Int)} (h:Rg.FRows F w v ll) (hk:KF F w w'):Rg.FRows F w' v ll:=by
 obtain ⟨us,h1,h2⟩:=h;exact ⟨us,h1.kp hk (fun _ a b=>b a),h2.kp hk (fun _ a b=>b a)⟩
theorem FRows.monox {F F':Nat→Prop} {w:World} {v:Value} {ll:List (List Int)} (h:Rg.FRows F w v ll) (hF:∀ k,F k→F' k):Rg.FRows F' w v ll:=by
 obtain ⟨us,h1,h2⟩:=h;exact ⟨us,h1.mono hF,h2.mono hF⟩
theorem GrF.kf {F:Nat→Prop} {W W':World} {gb:Nat} {gs:List (List Nat)} {ga:Option Addr} {gc:Nat} (h:GrF F W gb gs ga gc) (hk:KF F W W'):GrF F W' gb gs ga gc:=⟨h.c1.kf hk,FRows.kfx h.rows hk⟩
theorem GrF.mono {F F':Nat→Prop} {W:World} {gb:Nat} {gs:List (List Nat)} {ga:Option Addr} {gc:Nat} (h:GrF F W gb gs ga gc) (hF:∀ k,F k→F' k):GrF F' W gb gs ga gc:=⟨h.c1.mono hF,FRows.monox h.rows hF⟩
theorem GrF.kg {F F':Nat→Prop} {W W':World} {gb:Nat} {gs:List (List Nat)} {ga:Option Addr} {gc:Nat} (h:GrF F W gb gs ga gc) (hk:KG F W F' W'):GrF F' W' gb gs ga gc:=(h.kf hk.kf).mono hk.sub
theorem GrF.up {F:Nat→Prop} {W W':World} {gb:Nat} {gs:List (List Nat)} {ga:Option Addr} {gc:Nat} (h:GrF F W gb gs ga gc) (hb:Below W.heap.size W W'):GrF (Fup F W W') W' gb gs ga gc:=(h.kf (KF.of_below hb)).mono fun k=>.inl
theorem GrF.at {F:Nat→Prop} {W:World} {gb:Nat} {gs:List (List Nat)} {ga:Option Addr} {gc:Nat} (h:GrF F W gb gs ga gc) {i:Nat} (hi:i<gs.length):∃ b o u,ga=some ⟨b,o,none⟩∧CF F W b (o+i) u∧FP F W u gs[i]:=by
 obtain ⟨us,⟨a,cap,h1,h2,h3,h4,h5⟩,h6⟩:=h.rows
 have hl:us.length=gs.length:=by have:=h6.1; rwa [List.length_map] at this
 simp only [Value.slice.injEq] at h1;obtain ⟨rfl,-,rfl⟩:=h1;obtain ⟨b,o,e1,e2,e3,e4⟩:=h5 (by omega);have:=h6.2 i (by omega) (by rw [List.length_map]; exact hi);rw [List.getElem_map] at this;exact ⟨b,o,us[i]'(by omega),e1,⟨e4 i (by omega),e3,e2⟩,this⟩
theorem InsR.xs {N:Nat} {gs:List (List Nat)} {S:List Stp} {T:List (List Nat)} {es:List En} {x:List Nat} {S':List Stp} {T':List (List Nat)} {es':List En} (h:InsR N gs S T es x S' T' es'):∃ m,es'.map (·.x)=es.map (·.x)++m:=by
 obtain ⟨t,ht⟩:=h.key;have:=congrArg (List.map fun q:Nat × Nat × Nat × List Nat × Nat=>q.2.2.2.1) ht;rw [List.map_append,List.map_map,List.map_map] at this;exact ⟨_,this.symm⟩
theorem InsR.len {N:Nat} {gs:List (List Nat)} {S:List Stp} {T:List (List Nat)} {es:List En} {x:List Nat} {S':List Stp} {T':List (List Nat)} {es':List En} (h:InsR N gs S T es x S' T' es'):es.length≤es'.length:=by
 have:=h.key.length_le
 simpa using this
theorem InsR.mem {N:Nat} {gs:List (List Nat)} {S:List Stp} {T:List (List Nat)} {es:List En} {x:List Nat} {S':List Stp} {T':List (List Nat)} {es':List En} (h:InsR N gs S T es x S' T' es') {b k:Nat} {y:List Nat} (he:∃ e∈es,e.b=b∧e.x=y∧e.at_=k):∃ e∈es',e.b=b∧e.x=y∧e.at_=k:=by
 obtain ⟨e,he,h1,h2,h3⟩:=he;have:key5 e∈es'.map key5:=h.key.subset (List.mem_map_of_mem he);obtain ⟨e',h4,h5⟩:=List.mem_map.1 this;simp only [key5,Prod.mk.injEq] at h5;exact ⟨e',h4,h5.1.trans h1,h5.2.2.2.1.trans h2,h5.2.2.2.2.trans h3⟩
theorem InsR.pp {N:Nat} {gs:List (List Nat)} {S:List Stp} {T:List (List Nat)} {es:List En} {x:List Nat} {S':List Stp} {T':List (List Nat)} {es':List En} (h:InsR N gs S T es x S' T' es') {i k m:Nat} (hp:PP N (trE es) (es.map (·.x)) i k m) (hi:i<es.length) (hk:k≤i):PP N (trE es') (es'.map (·.x)) i k m:=by
 obtain ⟨m',hm⟩:=h.xs;rw [hm];exact hp.more (by rw [List.length_map]; exact hi) hk h.mono
theorem InsR.pr {N:Nat} {gs:List (List Nat)} {S:List Stp} {T:List (List Nat)} {es:List En} {x:List Nat} {S':List Stp} {T':List (List Nat)} {es':List En} (h:InsR N gs S T es x S' T' es') {i k:Nat} {a b:List Nat} (ha:(es.map (·.x))[i]?=some a) (hb:(es.map (·.x))[k]?=some b) (hx:x=Ma.mulN a b):PrS N (trE es') (es'.map (·.x)) i k:=by
 obtain ⟨m',hm⟩:=h.xs;unfold PrS;rw [hm,List.getD_eq_getElem?_getD,List.getD_eq_getElem?_getD,List.getElem?_append_left (List.getElem?_eq_some_iff.1 ha).1,List.getElem?_append_left (List.getElem?_eq_some_iff.1 hb).1,ha,hb];show Cm.Sd N _ N (Ma.mulN a b);rw [← hx]; exact h.sd
def FiP (B:Nat) (F:Nat→Prop) (tb mb N:Nat) (gs:List (List Nat)) (sv lv:Value) (w:World) (ed:Ending) (w':World):Prop :=
 ∃ (F':Nat→Prop) (sv' lv':Value) (S':List Stp) (T':List (List Nat)) (es':List En),ed=.returned (.tuple #[])∧Tb N gs S' T' es'∧Cm.IsTr N (Cm.Gr N (·∈gs)) (Cm.idT N (trE es'))∧S'.length≤es'.length*(2*N+2) ∧
  TbM B F' tb mb N w' S' T'.length es' es' es' sv' lv'∧Gw F (tbS tb mb [] sv lv) w F' (tbS tb mb es' sv' lv') w'
structure FlR (N:Nat) (gs:List (List Nat)) (S:List Stp) (T:List (List Nat)) (es:List En):Prop where
 tb:Tb N gs S T es
 pre:gs <+: T
 bd:S.length≤es.length*(2*N+2)
theorem FlR.tl {N:Nat} {gs:List (List Nat)} {S:List Stp} {T:List (List Nat)} {es:List En} (h:FlR N gs S T es) (hN:N≤16) (hg:gs.length≤1000):T.length<50000∧es.length≤256:=by
 have h1:=h.tb.sk.len;have h2:=h.tb.few;have h3:N*N≤16*16:=Nat.mul_le_mul hN hN;have h4:es.length*(2*N+2)≤256*34:=Nat.mul_le_mul (by omega) (by omega);have h5:=h.bd;omega
theorem FlR.ins {N:Nat} {gs:List (List Nat)} {S:List Stp} {T:List (List Nat)} {es:List En} (h:FlR N gs S T es) {x:List Nat} {S':List Stp} {T':List (List Nat)} {es':List En} (hi:InsR N gs S T es x S' T' es'):FlR N gs S' T' es':=by
 have h1:=h.bd;have h2:=hi.bd;exact ⟨hi.tb,h.pre.trans hi.pre,by omega⟩
theorem fill_t {B:Nat} {F0:Nat→Prop} {tb mb N:Nat} {w:World} {gs:List (List Nat)} {sv lv:Value} (hg:∀ s∈gs,Cm.Gd N s) (h:TbM B F0 tb mb N w [] gs.length [] [] [] sv lv) (hn1:1≤N) (hn2:N≤16) (hgl:gs.length≤1000) {ga:Option Addr} {gc:Nat} (hr:Rg.FRows F0 w (.slice ga gs.length gc) (gs.map Ma.ofN)) :
  Calls Tryz.prog 64 #[.pointer (some ⟨tb,0,none⟩),.agg #[.int .i64 ((N:Nat):Int),.slice ga gs.length gc]] w (FiP B F0 tb mb N gs sv lv w):=by
 have HG:=ι hg;have HGI:=ι (Cm.Gr.isG (gs:=(·∈gs)) hg);have K:=ι (Gw.refl (M:=tbS tb mb [] sv lv) h.Flt);have hb:Below w.heap.size w (w.alloc (.cells #[.int .i64 ((N:Nat):Int),.slice ga gs.length gc] 24)):=(Below.refl _ _).alloc (Nat.le_refl _) _;have TM:=ι (h.up hb);replace K:=ι (K.out.up hb)
 have GR:=ι (show GrF (Fup F0 w (w.alloc (.cells #[.int .i64 ((N:Nat):Int),.slice ga gs.length gc] 24))) (w.alloc (.cells #[.int .i64 ((N:Nat):Int),.slice ga gs.length gc] 24)) w.heap.size gs ga gc from
  ⟨⟨by rw [Rg.cellNew]; rfl,.inr ⟨Nat.le_refl _,by simp⟩,by simp⟩,FRows.monox (FRows.kfx hr (KF.of_below hb)) fun k=>.inl⟩)
 have FL:=ι (show FlR N gs [] gs [] from ⟨⟨Mk.start hg,fun e he=>(by cases he),Cm.TabOk.nil0,List.nodup_nil⟩,List.prefix_rfl,Nat.zero_le _⟩);have HS:=ι (show ∀ j,j<0→∀ s,gs[j]?=some s→Cm.Sd N (Cm.idT N (trE [])) N s from fun j hj=>absurd hj (Nat.not_lt_zero _));obtain ⟨gb,hgb⟩:∃ b,b=w.heap.size:=⟨_,rfl⟩;clear hg h hr hb
 go_enter Tryz.func64,Tryz.ntmps64
 go_upto_region 0 with (fail);refine Rg.wl ?_;refine Rg.lr 3 (Rg.exec_box _ _ rfl rfl) ?_;go_frame;generalize Fup F0 w (w.alloc (.cells #[.int .i64 ((N:Nat):Int),.slice ga gs.length gc] 24))=F1 at *;rw [← hgb] at GR;generalize w.alloc (.cells #[.int .i64 ((N:Nat):Int),.slice ga gs.length gc] 24)=w0 at *;rw [← hgb];clear hgb;go_upto_region 1 with (fail);refine Rg.wl ?_;refine Rg.lr 10 (exec_fieldG _ rfl rfl) ?_;go_frame;refine Rg.lr 11 (Rg.exec_load (v:=.slice ga gs.length gc) _ _ rfl ⟨gb,1,none⟩ rfl (Rg.run_loadSl _ _ Tryz.underlying22 GR.out.c1.cell)) ?_;go_frame;refine Rg.lr 12 (exec_len _ _ _ rfl Tryz.underlying22 _ _ _ rfl) ?_;go_frame;refine Rg.lm 13 (.int .i64 ((0:Nat):Int)) ?_;go_frame;go_wp2
 go_loopw [13] (fun iv wr=>∃ (i:Nat) (F1:Nat→Prop) (sv1 lv1:Value) (S1:List Stp) (T1:List (List Nat)) (es1:List En),iv=.int .i64 ((i:Nat):Int)∧i≤gs.length∧Hid (FlR N gs S1 T1 es1)∧Hid (∀ j,j<i→∀ s,gs[j]?=some s→Cm.Sd N (Cm.idT N (trE es1)) N s)∧Hid (TbM B F1 tb mb N wr S1 T1.length es1 es1 es1 sv1 lv1)∧Hid (Gw F0 (tbS tb mb [] sv lv) w F1 (tbS tb mb es1 sv1 lv1) wr)∧Hid (GrF F1 wr gb gs ga gc)) (fun iv _=>gs.length - (intOf iv).toNat)
 case atStart=>exact ⟨0,_,sv,lv,[],gs,[],rfl,Nat.zero_le _,FL,HS,TM,K,GR⟩
 case round =>
  clear FL HS TM K GR;obtain ⟨i,F1,sv1,lv1,S1,T1,es1,rfl,hi,FL,HS,TM,K,GR⟩:=hrel;have HTL:=ι (FL.out.tl hn2 hgl)
  by_cases hil:i<gs.length
  case pos =>
   have HIL:=ι hil;obtain ⟨sb,so,su,e1,hcu,hfu⟩:=GR.out.at hil;subst e1;obtain ⟨s,hs⟩:∃ s,Hid (gs[i]'hil=s):=⟨_,ι rfl⟩;rw [hs.out] at hfu;have CU:=ι hcu;have XU:=ι hfu;have HSI:=ι (show gs[i]?=some s by rw [List.getElem?_eq_getElem hil,hs.out]);have HST:=ι (show T1[i]?=some s from pre_at FL.out.pre HSI.out);have HSG:=ι (show Cm.Gr N (·∈gs) s from .gen s (List.mem_of_getElem? HSI.out));clear hcu hfu;go_upto_region 2 with (fail);refine Rg.wl ?_;refine Rg.lr 14 (exec_bin (R:=.bool true) .lss _ _ _ rfl rfl rfl (b_lss _ Rg.dT)) ?_;go_frame;go_upto_region 3 with (fail);refine Rg.wl ?_;refine Rg.lm 15 (.int .i64 ((i:Nat):Int)) ?_;go_frame;refine Rg.lr 16 (exec_indexS slPerms _ _ rfl sb (so) (gs.length) gc (i) rfl rfl HIL.out) ?_;go_frame;refine Rg.lr 17 (Rg.exec_load (v:=su) _ _ rfl ⟨sb,so+i,none⟩ rfl (Rg.run_loadSl _ _ Tryz.underlying30 CU.out.cell)) ?_;go_frame
   refine Rg.la 4 (.int .i64 ((i:Nat):Int)) ?_;go_frame;refine Rg.la 5 (su) ?_;go_frame;go_upto_region 4 with (fail);refine Rg.wl ?_;refine Rg.lm 18 (.pointer (some ⟨tb,0,none⟩)) ?_;go_frame;refine Rg.lm 19 (su) ?_;go_frame;refine Rg.lm 20 (.int .i64 ((i:Nat):Int)) ?_;go_frame;have hRW:=RwI.new (W:=wr) TM.out.Flt TM.out.Mlt [((i:Nat):Int)] (by simp) 3 rfl;have hb8:Below wr.heap.size wr (wr.alloc (.cells #[.int .i64 ((i:Nat):Int)] 3)):=(Below.refl _ _).alloc (Nat.le_refl _) _;refine Rg.lr 21 (Rg.exec_buildSlice _ _ _ rfl (.int .i64 ((i:Nat):Int)) rfl (run_build1N wr _)) ?_;go_frame;have TM8:=ι (TM.out.below hb8);have XU8:=ι (FP.kf XU.out (KF.of_below hb8));have GR8:=ι (GR.out.kf (KF.of_below hb8));have K8:=ι (K.out.fresh (P:=fun k=>(Value.slice (some ⟨wr.heap.size,0,none⟩) 1 1).ownBlock=some k) hb8 (fun k=>own_eq));clear hb8;refine Rg.lk 22 (exec_fn3 91 _ _ _ _ rfl rfl rfl rfl (Dicl0 _ _)) ?_
   refine (insert_t (parts:=[i]) HG.out FL.out.tb TM8.out hn1 hn2 XU8.out HSG.out hRW (by simp) (by simp; exact ⟨_,HST.out⟩) (by show T1.getD i []=s; rw [List.getD_eq_getElem?_getD,HST.out]; rfl) HTL.out.1).mono ?_;rintro e1 w21 ⟨F9,sv9,lv9,S9,T9,es9,rfl,hin9,hT9,hg9⟩;have hg9x:=hg9;refine ⟨_,rfl,?_⟩;go_frame;clear hg9x;have FL9:=ι (FL.out.ins hin9)
   have HS9:=ι (show ∀ j,j<i+1→∀ s,gs[j]?=some s→Cm.Sd N (Cm.idT N (trE es9)) N s from fun j hj z hz=>by
    by_cases e:j=i
    ·subst e
     rw [HSI.out] at hz
     injection hz with hz
     subst hz;exact hin9.sd
    ·exact Cm.Sd.mono (fun a b u _=>hin9.mono a b u) (HS.out j (by omega) z hz))
   have TM9:=ι hT9;have GR9:=ι (GR8.out.kg hg9.kg);have K9:=ι (K8.out.trans hg9);clear hT9 hg9 hin9 FL HS TM K GR TM8 XU8 GR8 K8 hRW CU XU;go_upto_region 5 with (fail);refine Rg.wl ?_;refine Rg.lr 23 (exec_bin (R:=.int .i64 (((i+1):Nat):Int)) .add _ _ _ rfl rfl rfl (b_add _ (by omega) (by omega))) ?_;go_frame;refine Rg.lm 13 (.int .i64 (((i+1):Nat):Int)) ?_;go_frame;go_wp2
   go_roundw
   case rel=>exact ⟨i+1,_,_,_,_,_,_,by go_num,HIL.out,FL9,HS9,TM9,K9,GR9⟩
   case measure=>simp [intOf]; have:=HIL.out; omega
  case neg =>
   have HSA:=ι (show ∀ s,s∈gs→Cm.Sd N (Cm.idT N (trE es1)) N s from fun s hs=>by
    obtain ⟨j,hj,e⟩:=List.getElem_of_mem hs
    exact HS.out j (by omega) s (by rw [List.getElem?_eq_getElem hj,e]))
   have HP:=ι (PP.start (n:=N) (tr:=trE es1) (l:=es1.map (·.x)));clear HS HTL GR;go_upto_region 2 with (fail);refine Rg.wl ?_;refine Rg.lr 14 (exec_bin (R:=.bool false) .lss _ _ _ rfl rfl rfl (b_lss _ Rg.dF)) ?_;go_frame;go_upto_region 6 with (fail);refine Rg.wl ?_;refine Rg.la 6 (.int .i64 ((0:Nat):Int)) ?_;go_frame;go_wp2
   go_loopw [6] (fun iv wr=>∃ (i:Nat) (F1:Nat→Prop) (sv1 lv1:Value) (S1:List Stp) (T1:List (List Nat)) (es1:List En),iv=.int .i64 ((i:Nat):Int)∧i≤es1.length∧Hid (FlR N gs S1 T1 es1)∧Hid (∀ s,s∈gs→Cm.Sd N (Cm.idT N (trE es1)) N s)∧Hid (PP N (trE es1) (es1.map (·.x)) i 0 0)∧Hid (TbM B F1 tb mb N wr S1 T1.length es1 es1 es1 sv1 lv1)∧Hid (Gw F0 (tbS tb mb [] sv lv) w F1 (tbS tb mb es1 sv1 lv1) wr)) (fun iv _=>300 - (intOf iv).toNat)
   case atStart=>exact ⟨0,_,_,_,_,_,_,rfl,Nat.zero_le _,FL,HSA,HP,TM,K⟩
   case round =>
    clear FL HSA HP TM K hi hil;obtain ⟨i,F1,sv1,lv1,S1,T1,es1,rfl,hi,FL,HSA,HP,TM,K⟩:=hrel;obtain ⟨la,lc,hls⟩:=Rg.row_shape TM.out.ls;subst hls;have hes:=(FL.out.tl hn2 hgl).2
    by_cases hil:i<es1.length
    case neg =>
     have hie:i=es1.length:=by omega
     have HIE:=ι hie;clear hie;go_upto_region 7 with (fail);refine Rg.wl ?_;refine Rg.lm 24 (.int .i64 ((i:Nat):Int)) ?_;go_frame;refine Rg.lm 25 (.pointer (some ⟨tb,0,none⟩)) ?_;go_frame;refine Rg.lr 26 (exec_nil _ rfl rfl) ?_;go_frame;refine Rg.lr 27 (exec_field _ rfl rfl (tblF3 _ _)) ?_;go_frame;refine Rg.lr 28 (Rg.exec_load (v:=.slice la es1.length lc) _ _ rfl ⟨tb,4,none⟩ rfl (Rg.run_loadSl _ _ Tryz.underlying102 TM.out.h4.c)) ?_;go_frame;refine Rg.lr 29 (exec_len _ _ _ rfl Tryz.underlying102 _ _ _ rfl) ?_;go_frame;refine Rg.lr 30 (exec_bin (R:=.bool false) .lss _ _ _ rfl rfl rfl (b_lss _ Rg.dF)) ?_;go_frame;have HTR:=ι ((FL.out.tb.le HSA.out).done HG.out (fun a b ha hb=>HP.out.1 a b (by rw [List.length_map] at ha; have:=HIE.out; omega) (by rw [List.length_map] at hb; have:=HIE.out; omega)));go_wp2
     first
     | go_end0
     | refine bodyPost_ret (results_none rfl _ _ _) rfl ?_
     exact ⟨_,_,_,_,_,_,rfl,FL.out.tb,HTR.out,FL.out.bd,TM.out,K.out⟩
    case pos =>
     have HIL:=ι hil;go_upto_region 7 with (fail);refine Rg.wl ?_;refine Rg.lm 24 (.int .i64 ((i:Nat):Int)) ?_;go_frame;refine Rg.lm 25 (.pointer (some ⟨tb,0,none⟩)) ?_;go_frame;refine Rg.lr 26 (exec_nil _ rfl rfl) ?_;go_frame;refine Rg.lr 27 (exec_field _ rfl rfl (tblF3 _ _)) ?_;go_frame;refine Rg.lr 28 (Rg.exec_load (v:=.slice la es1.length lc) _ _ rfl ⟨tb,4,none⟩ rfl (Rg.run_loadSl _ _ Tryz.underlying102 TM.out.h4.c)) ?_;go_frame;refine Rg.lr 29 (exec_len _ _ _ rfl Tryz.underlying102 _ _ _ rfl) ?_;go_frame;refine Rg.lr 30 (exec_bin (R:=.bool true) .lss _ _ _ rfl rfl rfl (b_lss _ Rg.dT)) ?_;go_frame;go_upto_region 9 with (fail);refine Rg.wl ?_;refine Rg.la 7 (.int .i64 ((0:Nat):Int)) ?_;go_frame;go_wp2
     go_loopw [7] (fun kv wr=>∃ (k:Nat) (F1:Nat→Prop) (sv1 lv1:Value) (S1:List Stp) (T1:List (List Nat)) (es1:List En),kv=.int .i64 ((k:Nat):Int)∧k≤i+1∧i<es1.length∧Hid (FlR N gs S1 T1 es1)∧Hid (∀ s,s∈gs→Cm.Sd N (Cm.idT N (trE es1)) N s)∧Hid (PP N (trE es1) (es1.map (·.x)) i k 0)∧Hid (TbM B F1 tb mb N wr S1 T1.length es1 es1 es1 sv1 lv1)∧Hid (Gw F0 (tbS tb mb [] sv lv) w F1 (tbS tb mb es1 sv1 lv1) wr)) (fun kv _=>300 - (intOf kv).toNat)
     case atStart=>exact ⟨0,_,_,_,_,_,_,rfl,Nat.zero_le _,hil,FL,HSA,HP,TM,K⟩
     case round =>
      clear FL HSA HP TM K HIL hil hi hes;obtain ⟨k,F1,sv1,lv1,S1,T1,es1,rfl,hk,hil,FL,HSA,HP,TM,K⟩:=hrel;have HTL:=ι (FL.out.tl hn2 hgl);have HIL:=ι hil;have HI256:=ι (show i<256 by have:=HTL.out.2; omega);obtain ⟨la,lc,hls⟩:=Rg.row_shape TM.out.ls;subst hls
      by_cases hki:k≤i
      case neg =>
       have hke:k=i+1:=by omega
       subst hke;have hi256:=HI256.out;go_upto_region 10 with (fail);refine Rg.wl ?_;refine Rg.lm 33 (.int .i64 (((i+1):Nat):Int)) ?_;go_frame;refine Rg.lm 34 (.int .i64 ((i:Nat):Int)) ?_;go_frame;refine Rg.lr 35 (exec_bin (R:=.bool false) .leq _ _ _ rfl rfl rfl (b_leq _ Rg.dF)) ?_;go_frame;go_upto_region 8 with (fail);refine Rg.wl ?_;refine Rg.lm 31 (.int .i64 ((i:Nat):Int)) ?_;go_frame;refine Rg.lr 32 (exec_bin (R:=.int .i64 (((i+1):Nat):Int)) .add _ _ _ rfl rfl rfl (b_add _ (by omega) (by omega))) ?_;go_frame;refine Rg.la 6 (.int .i64 (((i+1):Nat):Int)) ?_;go_frame;have HP2:=ι HP.out.row;go_wp2
       go_roundw
       case rel=>exact ⟨i+1,_,_,_,_,_,_,by go_num,HIL.out,FL,HSA,HP2,TM,K⟩
       case measure=>simp [intOf]; have:=HI256.out; omega
      case pos =>
       have HKL:=ι (show k<es1.length by omega);have HKI:=ι hki;obtain ⟨lg,lcc,e1,hca⟩:=TM.out.at HIL.out;simp only [Value.slice.injEq,true_and] at e1;obtain ⟨rfl,rfl⟩:=e1;obtain ⟨lg2,lcc2,e1,hcb⟩:=TM.out.at HKL.out;simp only [Value.slice.injEq,Option.some.injEq,Addr.mk.injEq,and_true,true_and] at e1;obtain ⟨rfl,rfl⟩:=e1;obtain ⟨ea,hea⟩:∃ e,Hid (es1[i]'HIL.out=e):=⟨_,ι rfl⟩;obtain ⟨eb,heb⟩:∃ e,Hid (es1[k]'HKL.out=e):=⟨_,ι rfl⟩;rw [hea.out] at hca;rw [heb.out] at hcb;obtain ⟨ba,hba⟩:∃ b,Hid (ea.b=b):=⟨_,ι rfl⟩;obtain ⟨bb,hbb⟩:∃ b,Hid (eb.b=b):=⟨_,ι rfl⟩;have CA:=ι (show CL wr lg (0+i) (.pointer (some ⟨ba,0,none⟩)) by rw [← hba.out]; exact hca);have CB:=ι (show CL wr lg (0+k) (.pointer (some ⟨bb,0,none⟩)) by rw [← hbb.out]; exact hcb);obtain ⟨xa,hxa⟩:∃ b,Hid (ea.x=b):=⟨_,ι rfl⟩;obtain ⟨xb,hxb⟩:∃ b,Hid (eb.x=b):=⟨_,ι rfl⟩
       obtain ⟨ka,hka⟩:∃ b,Hid (ea.at_=b):=⟨_,ι rfl⟩;obtain ⟨kb,hkb⟩:∃ b,Hid (eb.at_=b):=⟨_,ι rfl⟩;have MA:=ι (show ∃ e∈es1,e.b=ba∧e.x=xa∧e.at_=ka from ⟨ea,hea.out▸List.getElem_mem HIL.out,hba.out,hxa.out,hka.out⟩);have MB:=ι (show ∃ e∈es1,e.b=bb∧e.x=xb∧e.at_=kb from ⟨eb,heb.out▸List.getElem_mem HKL.out,hbb.out,hxb.out,hkb.out⟩);have HXA:=ι (show (es1.map (·.x))[i]?=some xa by rw [List.getElem?_map,List.getElem?_eq_getElem HIL.out,hea.out,← hxa.out]; rfl);have HXB:=ι (show (es1.map (·.x))[k]?=some xb by rw [List.getElem?_map,List.getElem?_eq_getElem HKL.out,heb.out,← hxb.out]; rfl);clear hca hcb hea heb hba hbb hxa hxb hka hkb;go_upto_region 10 with (fail);refine Rg.wl ?_;refine Rg.lm 33 (.int .i64 ((k:Nat):Int)) ?_;go_frame;refine Rg.lm 34 (.int .i64 ((i:Nat):Int)) ?_;go_frame;refine Rg.lr 35 (exec_bin (R:=.bool true) .leq _ _ _ rfl rfl rfl (b_leq _ Rg.dT)) ?_;go_frame
       have HCA:=ι ((show Below wr.heap.size wr wr.drew from (Below.refl _ _).drew).cell (p:=⟨lg,0+i,none⟩) CA.out.lt);have HCB:=ι ((show Below wr.heap.size wr wr.drew from (Below.refl _ _).drew).cell (p:=⟨lg,0+k,none⟩) CB.out.lt);go_upto_region 12 with (fail);have hV0:Below wr.heap.size wr wr.drew:=(Below.refl _ _).drew;replace TM:=ι (TM.out.up hV0);replace K:=ι (K.out.up hV0);generalize Fup F1 wr wr.drew=F1 at *;clear hV0;refine Rg.Any.begin (S:=Rg.Both 15 (fun W:World=>W.cell? ⟨tb,4,none⟩=some (.slice (some ⟨lg,0,none⟩) es1.length lc)∧W.cell? ⟨lg,0+i,none⟩=some (.pointer (some ⟨ba,0,none⟩))∧W.cell? ⟨lg,0+k,none⟩=some (.pointer (some ⟨bb,0,none⟩))) (fun _=>True)) mix ?_;generalize wr.drew=w102 at *;have hS:∀ (l:Array Bool) W,(fun W:World=>W.cell? ⟨tb,4,none⟩=some (.slice (some ⟨lg,0,none⟩) es1.length lc)∧W.cell? ⟨lg,0+i,none⟩=some (.pointer (some ⟨ba,0,none⟩))∧W.cell? ⟨lg,0+k,none⟩=some (.pointer (some ⟨bb,0,none⟩))) W→Rg.Both 15 (fun W:World=>W.cell? ⟨tb,4,none⟩=some (.slice (some ⟨lg,0,none⟩) es1.length lc)∧W.cell? ⟨lg,0+i,none⟩=some (.pointer (some ⟨ba,0,none⟩))∧W.cell? ⟨lg,0+k,none⟩=some (.pointer (some ⟨bb,0,none⟩))) (fun _=>True) l W:=fun l W h=>⟨.inr h,trivial⟩
       have hS2:∀ (l:Array Bool) W,l.getD 15 false=true→Rg.Both 15 (fun W:World=>W.cell? ⟨tb,4,none⟩=some (.slice (some ⟨lg,0,none⟩) es1.length lc)∧W.cell? ⟨lg,0+i,none⟩=some (.pointer (some ⟨ba,0,none⟩))∧W.cell? ⟨lg,0+k,none⟩=some (.pointer (some ⟨bb,0,none⟩))) (fun _=>True) l W:=fun l W h=>⟨.inl h,trivial⟩;have hI:(fun W:World=>W.cell? ⟨tb,4,none⟩=some (.slice (some ⟨lg,0,none⟩) es1.length lc)∧W.cell? ⟨lg,0+i,none⟩=some (.pointer (some ⟨ba,0,none⟩))∧W.cell? ⟨lg,0+k,none⟩=some (.pointer (some ⟨bb,0,none⟩))) w102:=⟨TM.out.h4.c,HCA.out.trans CA.out.cell,HCB.out.trans CB.out.cell⟩;refine Rg.tm 0 15 (.pointer (some ⟨tb,0,none⟩)) 38 (hS _ _ hI) ?_;go_frame;refine Rg.tg 1 15 (.pointer (some ⟨tb,0,none⟩)) 39 rfl rfl (.inl ⟨rfl,fun w _=>exec_nil _ rfl rfl⟩) (hS _ _ hI) ?_;go_frame;refine Rg.tg 2 15 (.pointer (some ⟨tb,4,none⟩)) 40 rfl rfl (.inl ⟨rfl,fun w _=>exec_field _ rfl rfl (tblF3 _ _)⟩) (hS _ _ hI) ?_;go_frame
       refine Rg.Any.takeT (i:=3) (t:=15) (v:=.slice (some ⟨lg,0,none⟩) es1.length lc) (some 41) rfl rfl (by kernel_rfl) (by kernel_rfl) (by kernel_rfl) (fun _ _ _ h=>h) rfl (by kernel_rfl) rfl (Rg.yields_cell _ _ rfl rfl ⟨tb,4,none⟩ rfl (fun W hW=>Rg.run_loadSl _ _ Tryz.underlying102 hW.1)) (hS _ _ hI) ?_;go_frame;refine Rg.tm 4 15 (.int .i64 ((i:Nat):Int)) 42 (hS _ _ hI) ?_;go_frame;refine Rg.tg 5 15 (.pointer (some ⟨lg,0+i,none⟩)) 43 rfl rfl (Rg.yields_index slEnts _ _ rfl rfl lg (0) (es1.length) lc (i) rfl rfl HIL.out) (hS _ _ hI) ?_;go_frame;refine Rg.Any.takeT (i:=6) (t:=15) (v:=.pointer (some ⟨ba,0,none⟩)) (some 44) rfl rfl (by kernel_rfl) (by kernel_rfl) (by kernel_rfl) (fun _ _ _ h=>h) rfl (by kernel_rfl) rfl (Rg.yields_cell _ _ rfl rfl ⟨lg,0+i,none⟩ rfl (fun W hW=>Rg.run_loadPtr _ _ Tryz.underlying110 hW.2.1)) (hS _ _ hI) ?_;go_frame;refine Rg.tm 7 15 (.pointer (some ⟨tb,0,none⟩)) 45 (hS _ _ hI) ?_;go_frame
       refine Rg.tg 8 15 (.pointer (some ⟨tb,0,none⟩)) 46 rfl rfl (.inl ⟨rfl,fun w _=>exec_nil _ rfl rfl⟩) (hS _ _ hI) ?_;go_frame;refine Rg.tg 9 15 (.pointer (some ⟨tb,4,none⟩)) 47 rfl rfl (.inl ⟨rfl,fun w _=>exec_field _ rfl rfl (tblF3 _ _)⟩) (hS _ _ hI) ?_;go_frame;refine Rg.Any.takeT (i:=10) (t:=15) (v:=.slice (some ⟨lg,0,none⟩) es1.length lc) (some 48) rfl rfl (by kernel_rfl) (by kernel_rfl) (by kernel_rfl) (fun _ _ _ h=>h) rfl (by kernel_rfl) rfl (Rg.yields_cell _ _ rfl rfl ⟨tb,4,none⟩ rfl (fun W hW=>Rg.run_loadSl _ _ Tryz.underlying102 hW.1)) (hS _ _ hI) ?_;go_frame;refine Rg.tm 11 15 (.int .i64 ((k:Nat):Int)) 49 (hS _ _ hI) ?_;go_frame;refine Rg.tg 12 15 (.pointer (some ⟨lg,0+k,none⟩)) 50 rfl rfl (Rg.yields_index slEnts _ _ rfl rfl lg (0) (es1.length) lc (k) rfl rfl HKL.out) (hS _ _ hI) ?_;go_frame;refine Rg.Any.takeT (i:=13) (t:=15) (v:=.pointer (some ⟨bb,0,none⟩)) (some 51) rfl rfl (by kernel_rfl) (by kernel_rfl) (by kernel_rfl) (fun _ _ _ h=>h) rfl (by kernel_rfl) rfl (Rg.yields_cell _ _ rfl rfl ⟨lg,0+k,none⟩ rfl (fun W hW=>Rg.run_loadPtr _ _ Tryz.underlying110 hW.2.2)) (hS _ _ hI) ?_;go_frame
       refine Rg.tg 14 15 (.pointer (some ⟨ba,0,none⟩)) 8 rfl rfl (.inl ⟨rfl,fun w _=>Rg.exec_assign (v:=.pointer (some ⟨ba,0,none⟩)) _ rfl rfl⟩) (hS _ _ hI) ?_;go_frame;refine Rg.Any.one (i:=15) (by kernel_rfl) (Rg.Any.run (some 9) rfl rfl rfl (Rg.xa (.pointer (some ⟨bb,0,none⟩)) _ rfl rfl) (hS2 _ _ rfl) ?_);go_frame;refine Rg.Any.done (by kernel_rfl) ?_ _;clear hS2;clear hS hI;clear CA CB HCA HCB;go_upto_region 13 with (fail);have hV1:Below w102.heap.size w102 w102.drew:=(Below.refl _ _).drew;replace TM:=ι (TM.out.up hV1);replace K:=ι (K.out.up hV1);clear hV1;generalize Fup F1 w102 w102.drew=FVp at *;obtain ⟨eap,heap,habp,haxp,hakp⟩:=MA.out;obtain ⟨ebp,hebp,hbbp,hbxp,hbkp⟩:=MB.out;obtain ⟨vap,yap,qap⟩:=TM.out.en _ heap;obtain ⟨vbp,ybp,qbp⟩:=TM.out.en _ hebp;have EA:=ι (show Cw w102.drew ba 0 vap by rw [← habp]; exact qap.c0);have EB:=ι (show Cw w102.drew bb 0 vbp by rw [← hbbp]; exact qbp.c0)
       have AA:=ι (show Cw w102.drew ba 2 (.int .i64 ((ka:Nat):Int)) by rw [← habp,← hakp]; exact qap.c2);have AB:=ι (show Cw w102.drew bb 2 (.int .i64 ((kb:Nat):Int)) by rw [← hbbp,← hbkp]; exact qbp.c2);have XA:=ι (show FP FVp w102.drew vap xa by rw [← haxp]; exact qap.x);have XB:=ι (show FP FVp w102.drew vbp xb by rw [← hbxp]; exact qbp.x);have GXA:=ι (show Cm.Gd N xa by rw [← haxp]; exact (FL.out.tb.en _ heap).gd);have GXB:=ι (show Cm.Gd N xb by rw [← hbxp]; exact (FL.out.tb.en _ hebp).gd);have HTA:=ι (show T1[ka]?=some xa by rw [← haxp,← hakp]; exact (FL.out.tb.en _ heap).at_);have HTB:=ι (show T1[kb]?=some xb by rw [← hbxp,← hbkp]; exact (FL.out.tb.en _ hebp).at_)
       have HGR:=ι (show Cm.Gr N (·∈gs) (Ma.mulN xa xb) from by
        have key:=fun e (he:e∈es1)=>((FL.out.tb.le HSA.out).gr (List.mem_map_of_mem he)).1;rw [← haxp,← hbxp]
        exact HGI.out.mul _ _ (key _ heap) (key _ hebp))
       clear qap qbp heap hebp habp haxp hakp hbbp hbxp hbkp;refine Rg.Any.begin (S:=Rg.Tw 9 (fun W:World=>W.cell? ⟨ba,0,none⟩=some vap∧W.cell? ⟨bb,0,none⟩=some vbp) 18 (fun W:World=>W.cell? ⟨ba,2,none⟩=some (.int .i64 ((ka:Nat):Int))∧W.cell? ⟨bb,2,none⟩=some (.int .i64 ((kb:Nat):Int)))) mix ?_;generalize w102.drew=w103 at *
       have hSB:∀ (l:Array Bool) W,Below w103.heap.size w103 W→Rg.Tw 9 (fun W:World=>W.cell? ⟨ba,0,none⟩=some vap∧W.cell? ⟨bb,0,none⟩=some vbp) 18 (fun W:World=>W.cell? ⟨ba,2,none⟩=some (.int .i64 ((ka:Nat):Int))∧W.cell? ⟨bb,2,none⟩=some (.int .i64 ((kb:Nat):Int))) l W:=fun l W h =>
        ⟨.inr ⟨(h.cell (p:=⟨ba,0,none⟩) EA.out.lt).trans EA.out.c,(h.cell (p:=⟨bb,0,none⟩) EB.out.lt).trans EB.out.c⟩,.inr ⟨(h.cell (p:=⟨ba,2,none⟩) AA.out.lt).trans AA.out.c,(h.cell (p:=⟨bb,2,none⟩) AB.out.lt).trans AB.out.c⟩⟩
       have hS:∀ l:Array Bool,Rg.Tw 9 (fun W:World=>W.cell? ⟨ba,0,none⟩=some vap∧W.cell? ⟨bb,0,none⟩=some vbp) 18 (fun W:World=>W.cell? ⟨ba,2,none⟩=some (.int .i64 ((ka:Nat):Int))∧W.cell? ⟨bb,2,none⟩=some (.int .i64 ((kb:Nat):Int))) l w103:=fun l=>hSB l _ (Below.refl _ _);refine Rg.Any.takeP (i:=0) (t:=9) (u:=18) (v:=.pointer (some ⟨tb,0,none⟩)) (some 52) rfl rfl (by kernel_rfl) (by kernel_rfl) (by kernel_rfl) (fun _ _ _ h=>h) rfl rfl (.inl ⟨rfl,fun w _=>Rg.exec_move (v:=.pointer (some ⟨tb,0,none⟩)) _ rfl rfl⟩) (hS _) ?_;go_frame;refine Rg.Any.takeP (i:=1) (t:=9) (u:=18) (v:=.pointer (some ⟨ba,0,none⟩)) (some 53) rfl rfl (by kernel_rfl) (by kernel_rfl) (by kernel_rfl) (fun _ _ _ h=>h) rfl rfl (.inl ⟨rfl,fun w _=>Rg.exec_move (v:=.pointer (some ⟨ba,0,none⟩)) _ rfl rfl⟩) (hS _) ?_;go_frame;refine Rg.Any.takeP (i:=2) (t:=9) (u:=18) (v:=.pointer (some ⟨ba,0,none⟩)) (some 54) rfl rfl (by kernel_rfl) (by kernel_rfl) (by kernel_rfl) (fun _ _ _ h=>h) rfl rfl (.inl ⟨rfl,fun w _=>exec_nil _ rfl rfl⟩) (hS _) ?_;go_frame
       refine Rg.Any.takeP (i:=3) (t:=9) (u:=18) (v:=.pointer (some ⟨ba,0,none⟩)) (some 55) rfl rfl (by kernel_rfl) (by kernel_rfl) (by kernel_rfl) (fun _ _ _ h=>h) rfl rfl (.inl ⟨rfl,fun w _=>exec_field _ rfl rfl (enF0 _ _)⟩) (hS _) ?_;go_frame;refine Rg.Any.takeA (i:=4) (t:=9) (u:=18) (v:=vap) (some 56) rfl rfl (by kernel_rfl) (by kernel_rfl) (by kernel_rfl) (fun _ _ _ h=>h) rfl rfl (by kernel_rfl) rfl (Rg.yields_cell _ _ rfl rfl ⟨ba,0,none⟩ rfl (fun W hW=>Rg.run_loadSl _ _ Tryz.underlying30 hW.1)) (hS _) ?_;go_frame;refine Rg.Any.takeP (i:=5) (t:=9) (u:=18) (v:=.pointer (some ⟨bb,0,none⟩)) (some 57) rfl rfl (by kernel_rfl) (by kernel_rfl) (by kernel_rfl) (fun _ _ _ h=>h) rfl rfl (.inl ⟨rfl,fun w _=>Rg.exec_move (v:=.pointer (some ⟨bb,0,none⟩)) _ rfl rfl⟩) (hS _) ?_;go_frame;refine Rg.Any.takeP (i:=6) (t:=9) (u:=18) (v:=.pointer (some ⟨bb,0,none⟩)) (some 58) rfl rfl (by kernel_rfl) (by kernel_rfl) (by kernel_rfl) (fun _ _ _ h=>h) rfl rfl (.inl ⟨rfl,fun w _=>exec_nil _ rfl rfl⟩) (hS _) ?_;go_frame
       refine Rg.Any.takeP (i:=7) (t:=9) (u:=18) (v:=.pointer (some ⟨bb,0,none⟩)) (some 59) rfl rfl (by kernel_rfl) (by kernel_rfl) (by kernel_rfl) (fun _ _ _ h=>h) rfl rfl (.inl ⟨rfl,fun w _=>exec_field _ rfl rfl (enF0 _ _)⟩) (hS _) ?_;go_frame;refine Rg.Any.takeA (i:=8) (t:=9) (u:=18) (v:=vbp) (some 60) rfl rfl (by kernel_rfl) (by kernel_rfl) (by kernel_rfl) (fun _ _ _ h=>h) rfl rfl (by kernel_rfl) rfl (Rg.yields_cell _ _ rfl rfl ⟨bb,0,none⟩ rfl (fun W hW=>Rg.run_loadSl _ _ Tryz.underlying30 hW.2)) (hS _) ?_;go_frame;refine Rg.Any.takeP (i:=10) (t:=9) (u:=18) (v:=.pointer (some ⟨ba,0,none⟩)) (some 62) rfl rfl (by kernel_rfl) (by kernel_rfl) (by kernel_rfl) (fun _ _ _ h=>h) rfl rfl (.inl ⟨rfl,fun w _=>Rg.exec_move (v:=.pointer (some ⟨ba,0,none⟩)) _ rfl rfl⟩) (hS _) ?_;go_frame;refine Rg.Any.takeP (i:=11) (t:=9) (u:=18) (v:=.pointer (some ⟨ba,0,none⟩)) (some 63) rfl rfl (by kernel_rfl) (by kernel_rfl) (by kernel_rfl) (fun _ _ _ h=>h) rfl rfl (.inl ⟨rfl,fun w _=>exec_nil _ rfl rfl⟩) (hS _) ?_;go_frame
       refine Rg.Any.takeP (i:=12) (t:=9) (u:=18) (v:=.pointer (some ⟨ba,2,none⟩)) (some 64) rfl rfl (by kernel_rfl) (by kernel_rfl) (by kernel_rfl) (fun _ _ _ h=>h) rfl rfl (.inl ⟨rfl,fun w _=>exec_field _ rfl rfl (enF2 _ _)⟩) (hS _) ?_;go_frame;refine Rg.Any.takeB (i:=13) (t:=9) (u:=18) (v:=.int .i64 ((ka:Nat):Int)) (some 65) rfl rfl (by kernel_rfl) (by kernel_rfl) (by kernel_rfl) (fun _ _ _ h=>h) rfl rfl (by kernel_rfl) rfl (Rg.yields_cell _ _ rfl rfl ⟨ba,2,none⟩ rfl (fun W hW=>run_loadInt hW.1)) (hS _) ?_;go_frame;refine Rg.Any.takeP (i:=14) (t:=9) (u:=18) (v:=.pointer (some ⟨bb,0,none⟩)) (some 66) rfl rfl (by kernel_rfl) (by kernel_rfl) (by kernel_rfl) (fun _ _ _ h=>h) rfl rfl (.inl ⟨rfl,fun w _=>Rg.exec_move (v:=.pointer (some ⟨bb,0,none⟩)) _ rfl rfl⟩) (hS _) ?_;go_frame;refine Rg.Any.takeP (i:=15) (t:=9) (u:=18) (v:=.pointer (some ⟨bb,0,none⟩)) (some 67) rfl rfl (by kernel_rfl) (by kernel_rfl) (by kernel_rfl) (fun _ _ _ h=>h) rfl rfl (.inl ⟨rfl,fun w _=>exec_nil _ rfl rfl⟩) (hS _) ?_;go_frame
       refine Rg.Any.takeP (i:=16) (t:=9) (u:=18) (v:=.pointer (some ⟨bb,2,none⟩)) (some 68) rfl rfl (by kernel_rfl) (by kernel_rfl) (by kernel_rfl) (fun _ _ _ h=>h) rfl rfl (.inl ⟨rfl,fun w _=>exec_field _ rfl rfl (enF2 _ _)⟩) (hS _) ?_;go_frame;refine Rg.Any.takeB (i:=17) (t:=9) (u:=18) (v:=.int .i64 ((kb:Nat):Int)) (some 69) rfl rfl (by kernel_rfl) (by kernel_rfl) (by kernel_rfl) (fun _ _ _ h=>h) rfl rfl (by kernel_rfl) rfl (Rg.yields_cell _ _ rfl rfl ⟨bb,2,none⟩ rfl (fun W hW=>run_loadInt hW.2)) (hS _) ?_;go_frame;refine duo2 (i:=9) (j:=18) (di:=61) (dj:=70) (I:=fun W=>Below w103.heap.size w103 W) (R1:=fun u W=>Rg.NPF w103 W u (Ma.mulN xa xb)) (R2:=fun v W=>v=.slice (some ⟨w103.heap.size,0,none⟩) 2 2∧W=w103.alloc (.cells #[.int .i64 ((ka:Nat):Int),.int .i64 ((kb:Nat):Int)] 3)) (R:=fun u v W=>NewPI FVp w103 (Ma.mulN xa xb) ((ka:Nat):Int) ((kb:Nat):Int) u v W) hSB (by decide) (by decide) (by kernel_rfl) (by kernel_rfl) (by kernel_rfl) ?_ ?_ ?_ ?_ ?_
       ·refine dCall rfl rfl rfl _ _ (exec_fn 44 _ _ _ rfl rfl rfl (Bgcl6 _ _)) ?_
        refine (fcMul_any _ _ xa xb w103 XA.out.np XB.out.np (fun q hq=>by rw [GXB.out.2]; exact gd_mem GXA.out hq) (by rw [GXA.out.2]; omega) (by rw [GXA.out.2]; exact hn1) (by rw [GXB.out.2]; exact hn1)).mono ?_;rintro e1 W ⟨u,rfl,hu,hb⟩;exact ⟨u,rfl,hb,hu⟩
       ·intro u W hI hu
        have hn:Below W.heap.size W (W.alloc (.cells #[.int .i64 ((ka:Nat):Int),.int .i64 ((kb:Nat):Int)] 3)):=(Below.refl _ _).alloc (Nat.le_refl _) _;exact dRun rfl rfl rfl (exec_buildSlice2 _ _ _ _ rfl rfl rfl (run_build2N W _ _)) (Rg.acc hI hn) (NewPI.one hu.1 hu.2 (by rw [Ma.len_mulN,GXA.out.2]; exact hn1) hI _ _)
       ·have hn:Below w103.heap.size w103 (w103.alloc (.cells #[.int .i64 ((ka:Nat):Int),.int .i64 ((kb:Nat):Int)] 3)):=(Below.refl _ _).alloc (Nat.le_refl _) _
        exact dRun rfl rfl rfl (exec_buildSlice2 _ _ _ _ rfl rfl rfl (run_build2N w103 _ _)) hn ⟨rfl,rfl⟩
       ·rintro v W hI ⟨rfl,rfl⟩
        refine dCall rfl rfl rfl _ _ (exec_fn 44 _ _ _ rfl rfl rfl (Bgcl6 _ _)) ?_;refine (fcMul_any _ _ xa xb _ (Rg.NP.below XA.out.np hI) (Rg.NP.below XB.out.np hI) (fun q hq=>by rw [GXB.out.2]; exact gd_mem GXA.out hq) (by rw [GXA.out.2]; omega) (by rw [GXA.out.2]; exact hn1) (by rw [GXB.out.2]; exact hn1)).mono ?_;rintro e1 W ⟨u,rfl,hu,hb⟩;exact ⟨u,rfl,Rg.acc hI hb,NewPI.two _ _ hu (by rw [Ma.len_mulN,GXA.out.2]; exact hn1) hb⟩
       rintro W8 u8 v8 hI hnw;have TM8:=ι (NewPI.tm TM.out hI hnw);have RW8:=ι (hnw.rw hI TM.out.Flt TM.out.Mlt)
       have K8:=ι (K.out.grow (P:=fun k=>v8.ownBlock=some k) (Q:=fun k=>u8.ownBlock=some k) hI hnw.1 (fun k e=>by
        obtain ⟨_,_,g,rfl,hg,_,_⟩:=hnw
        exact Nat.le_trans hg (own_eq e)))
       have X8:=ι hnw.2.1;clear hnw TM K EA EB AA AB XA XB hS;go_frame;have hS8:=hSB;refine Rg.Any.one (i:=19) (by kernel_rfl) (Rg.Any.ask (some 71) rfl rfl rfl _ _ (exec_fn3 91 _ _ _ _ rfl rfl rfl rfl (Dicl0 _ _)) ?_)
       refine (insert_t (parts:=[ka,kb]) HG.out FL.out.tb TM8.out hn1 hn2 X8.out HGR.out RW8.out ⟨Nat.le_succ _,Nat.le_refl _⟩ (fun q hq=>by
        rcases List.mem_cons.1 hq with hq | hq
        ·exact ⟨_,by rw [hq]; exact HTA.out⟩
        ·rw [List.mem_singleton] at hq; exact ⟨_,by rw [hq]; exact HTB.out⟩) (by show Ma.mulN (T1.getD ka []) (T1.getD kb [])=_; rw [List.getD_eq_getElem?_getD,List.getD_eq_getElem?_getD,HTA.out,HTB.out]; rfl) HTL.out.1).mono ?_
       rintro e1 W9p ⟨F9p,sv9p,lv9p,S9p,T9p,es9p,rfl,hin9,hT9,hg9⟩;refine ⟨_,rfl,⟨.inl rfl,.inl rfl⟩,?_⟩;go_frame;refine Rg.Any.done (by kernel_rfl) ?_ _;have FL9:=ι (FL.out.ins hin9);have HSA9:=ι (show ∀ s,s∈gs→Cm.Sd N (Cm.idT N (trE es9p)) N s from fun s hs=>Cm.Sd.mono (fun a b u _=>hin9.mono a b u) (HSA.out s hs));have TM9:=ι hT9;have K9:=ι (K8.out.trans hg9);have MA9:=ι (hin9.mem MA.out);have MB9:=ι (hin9.mem MB.out);have HLE9:=ι hin9.len;have HPR:=ι (hin9.pr HXA.out HXB.out rfl);have HPP:=ι (hin9.pp HP.out HIL.out HKI.out)
       have HXA9:=ι (show (es9p.map (·.x))[i]?=some xa by
        obtain ⟨m,hm⟩:=hin9.xs
        rw [hm,List.getElem?_append_left (List.getElem?_eq_some_iff.1 HXA.out).1]; exact HXA.out)
       have HXB9:=ι (show (es9p.map (·.x))[k]?=some xb by
        obtain ⟨m,hm⟩:=hin9.xs
        rw [hm,List.getElem?_append_left (List.getElem?_eq_some_iff.1 HXB.out).1]; exact HXB.out)
       have HTL9:=ι (FL9.out.tl hn2 hgl);have HIL9:=ι (show i<es9p.length by have:=HLE9.out; have:=HIL.out; omega);clear hT9 hg9 hin9 FL HSA TM8 K8 RW8 X8 MA MB HXA HXB HTL HIL HP hI hSB hS8 GXA GXB HTA HTB HGR HLE9;have HP:=ι (HPP.out.step0 HPR.out);have FL:=FL9;have HSA:=HSA9;have TM:=TM9;have K:=K9;have MA:=MA9;have MB:=MB9;have HXA:=HXA9;have HXB:=HXB9;have HTL:=HTL9;have HIL:=HIL9;clear FL9 HSA9 TM9 K9 MA9 MB9 HXA9 HXB9 HTL9 HIL9 HPP HPR;go_upto_region 14 with (fail);have hV1:Below W9p.heap.size W9p W9p.drew:=(Below.refl _ _).drew;replace TM:=ι (TM.out.up hV1);replace K:=ι (K.out.up hV1);clear hV1;generalize Fup F9p W9p W9p.drew=FVq at *;obtain ⟨eaq,heaq,habq,haxq,hakq⟩:=MB.out;obtain ⟨ebq,hebq,hbbq,hbxq,hbkq⟩:=MA.out;obtain ⟨vaq,yaq,qaq⟩:=TM.out.en _ heaq;obtain ⟨vbq,ybq,qbq⟩:=TM.out.en _ hebq;have EA:=ι (show Cw W9p.drew bb 0 vaq by rw [← habq]; exact qaq.c0)
       have EB:=ι (show Cw W9p.drew ba 0 vbq by rw [← hbbq]; exact qbq.c0);have AA:=ι (show Cw W9p.drew bb 2 (.int .i64 ((kb:Nat):Int)) by rw [← habq,← hakq]; exact qaq.c2);have AB:=ι (show Cw W9p.drew ba 2 (.int .i64 ((ka:Nat):Int)) by rw [← hbbq,← hbkq]; exact qbq.c2);have XA:=ι (show FP FVq W9p.drew vaq xb by rw [← haxq]; exact qaq.x);have XB:=ι (show FP FVq W9p.drew vbq xa by rw [← hbxq]; exact qbq.x);have GXA:=ι (show Cm.Gd N xb by rw [← haxq]; exact (FL.out.tb.en _ heaq).gd);have GXB:=ι (show Cm.Gd N xa by rw [← hbxq]; exact (FL.out.tb.en _ hebq).gd);have HTA:=ι (show T9p[kb]?=some xb by rw [← haxq,← hakq]; exact (FL.out.tb.en _ heaq).at_);have HTB:=ι (show T9p[ka]?=some xa by rw [← hbxq,← hbkq]; exact (FL.out.tb.en _ hebq).at_)
       have HGR:=ι (show Cm.Gr N (·∈gs) (Ma.mulN xb xa) from by
        have key:=fun e (he:e∈es9p)=>((FL.out.tb.le HSA.out).gr (List.mem_map_of_mem he)).1;rw [← haxq,← hbxq]
        exact HGI.out.mul _ _ (key _ heaq) (key _ hebq))
       clear qaq qbq heaq hebq habq haxq hakq hbbq hbxq hbkq;refine Rg.Any.begin (S:=Rg.Tw 9 (fun W:World=>W.cell? ⟨bb,0,none⟩=some vaq∧W.cell? ⟨ba,0,none⟩=some vbq) 18 (fun W:World=>W.cell? ⟨bb,2,none⟩=some (.int .i64 ((kb:Nat):Int))∧W.cell? ⟨ba,2,none⟩=some (.int .i64 ((ka:Nat):Int)))) mix ?_;generalize W9p.drew=w124 at *
       have hSB:∀ (l:Array Bool) W,Below w124.heap.size w124 W→Rg.Tw 9 (fun W:World=>W.cell? ⟨bb,0,none⟩=some vaq∧W.cell? ⟨ba,0,none⟩=some vbq) 18 (fun W:World=>W.cell? ⟨bb,2,none⟩=some (.int .i64 ((kb:Nat):Int))∧W.cell? ⟨ba,2,none⟩=some (.int .i64 ((ka:Nat):Int))) l W:=fun l W h =>
        ⟨.inr ⟨(h.cell (p:=⟨bb,0,none⟩) EA.out.lt).trans EA.out.c,(h.cell (p:=⟨ba,0,none⟩) EB.out.lt).trans EB.out.c⟩,.inr ⟨(h.cell (p:=⟨bb,2,none⟩) AA.out.lt).trans AA.out.c,(h.cell (p:=⟨ba,2,none⟩) AB.out.lt).trans AB.out.c⟩⟩
       have hS:∀ l:Array Bool,Rg.Tw 9 (fun W:World=>W.cell? ⟨bb,0,none⟩=some vaq∧W.cell? ⟨ba,0,none⟩=some vbq) 18 (fun W:World=>W.cell? ⟨bb,2,none⟩=some (.int .i64 ((kb:Nat):Int))∧W.cell? ⟨ba,2,none⟩=some (.int .i64 ((ka:Nat):Int))) l w124:=fun l=>hSB l _ (Below.refl _ _);refine Rg.Any.takeP (i:=0) (t:=9) (u:=18) (v:=.pointer (some ⟨tb,0,none⟩)) (some 72) rfl rfl (by kernel_rfl) (by kernel_rfl) (by kernel_rfl) (fun _ _ _ h=>h) rfl rfl (.inl ⟨rfl,fun w _=>Rg.exec_move (v:=.pointer (some ⟨tb,0,none⟩)) _ rfl rfl⟩) (hS _) ?_;go_frame;refine Rg.Any.takeP (i:=1) (t:=9) (u:=18) (v:=.pointer (some ⟨bb,0,none⟩)) (some 73) rfl rfl (by kernel_rfl) (by kernel_rfl) (by kernel_rfl) (fun _ _ _ h=>h) rfl rfl (.inl ⟨rfl,fun w _=>Rg.exec_move (v:=.pointer (some ⟨bb,0,none⟩)) _ rfl rfl⟩) (hS _) ?_;go_frame;refine Rg.Any.takeP (i:=2) (t:=9) (u:=18) (v:=.pointer (some ⟨bb,0,none⟩)) (some 74) rfl rfl (by kernel_rfl) (by kernel_rfl) (by kernel_rfl) (fun _ _ _ h=>h) rfl rfl (.inl ⟨rfl,fun w _=>exec_nil _ rfl rfl⟩) (hS _) ?_;go_frame
       refine Rg.Any.takeP (i:=3) (t:=9) (u:=18) (v:=.pointer (some ⟨bb,0,none⟩)) (some 75) rfl rfl (by kernel_rfl) (by kernel_rfl) (by kernel_rfl) (fun _ _ _ h=>h) rfl rfl (.inl ⟨rfl,fun w _=>exec_field _ rfl rfl (enF0 _ _)⟩) (hS _) ?_;go_frame;refine Rg.Any.takeA (i:=4) (t:=9) (u:=18) (v:=vaq) (some 76) rfl rfl (by kernel_rfl) (by kernel_rfl) (by kernel_rfl) (fun _ _ _ h=>h) rfl rfl (by kernel_rfl) rfl (Rg.yields_cell _ _ rfl rfl ⟨bb,0,none⟩ rfl (fun W hW=>Rg.run_loadSl _ _ Tryz.underlying30 hW.1)) (hS _) ?_;go_frame;refine Rg.Any.takeP (i:=5) (t:=9) (u:=18) (v:=.pointer (some ⟨ba,0,none⟩)) (some 77) rfl rfl (by kernel_rfl) (by kernel_rfl) (by kernel_rfl) (fun _ _ _ h=>h) rfl rfl (.inl ⟨rfl,fun w _=>Rg.exec_move (v:=.pointer (some ⟨ba,0,none⟩)) _ rfl rfl⟩) (hS _) ?_;go_frame;refine Rg.Any.takeP (i:=6) (t:=9) (u:=18) (v:=.pointer (some ⟨ba,0,none⟩)) (some 78) rfl rfl (by kernel_rfl) (by kernel_rfl) (by kernel_rfl) (fun _ _ _ h=>h) rfl rfl (.inl ⟨rfl,fun w _=>exec_nil _ rfl rfl⟩) (hS _) ?_;go_frame
       refine Rg.Any.takeP (i:=7) (t:=9) (u:=18) (v:=.pointer (some ⟨ba,0,none⟩)) (some 79) rfl rfl (by kernel_rfl) (by kernel_rfl) (by kernel_rfl) (fun _ _ _ h=>h) rfl rfl (.inl ⟨rfl,fun w _=>exec_field _ rfl rfl (enF0 _ _)⟩) (hS _) ?_;go_frame;refine Rg.Any.takeA (i:=8) (t:=9) (u:=18) (v:=vbq) (some 80) rfl rfl (by kernel_rfl) (by kernel_rfl) (by kernel_rfl) (fun _ _ _ h=>h) rfl rfl (by kernel_rfl) rfl (Rg.yields_cell _ _ rfl rfl ⟨ba,0,none⟩ rfl (fun W hW=>Rg.run_loadSl _ _ Tryz.underlying30 hW.2)) (hS _) ?_;go_frame;refine Rg.Any.takeP (i:=10) (t:=9) (u:=18) (v:=.pointer (some ⟨bb,0,none⟩)) (some 82) rfl rfl (by kernel_rfl) (by kernel_rfl) (by kernel_rfl) (fun _ _ _ h=>h) rfl rfl (.inl ⟨rfl,fun w _=>Rg.exec_move (v:=.pointer (some ⟨bb,0,none⟩)) _ rfl rfl⟩) (hS _) ?_;go_frame;refine Rg.Any.takeP (i:=11) (t:=9) (u:=18) (v:=.pointer (some ⟨bb,0,none⟩)) (some 83) rfl rfl (by kernel_rfl) (by kernel_rfl) (by kernel_rfl) (fun _ _ _ h=>h) rfl rfl (.inl ⟨rfl,fun w _=>exec_nil _ rfl rfl⟩) (hS _) ?_;go_frame
       refine Rg.Any.takeP (i:=12) (t:=9) (u:=18) (v:=.pointer (some ⟨bb,2,none⟩)) (some 84) rfl rfl (by kernel_rfl) (by kernel_rfl) (by kernel_rfl) (fun _ _ _ h=>h) rfl rfl (.inl ⟨rfl,fun w _=>exec_field _ rfl rfl (enF2 _ _)⟩) (hS _) ?_;go_frame;refine Rg.Any.takeB (i:=13) (t:=9) (u:=18) (v:=.int .i64 ((kb:Nat):Int)) (some 85) rfl rfl (by kernel_rfl) (by kernel_rfl) (by kernel_rfl) (fun _ _ _ h=>h) rfl rfl (by kernel_rfl) rfl (Rg.yields_cell _ _ rfl rfl ⟨bb,2,none⟩ rfl (fun W hW=>run_loadInt hW.1)) (hS _) ?_;go_frame;refine Rg.Any.takeP (i:=14) (t:=9) (u:=18) (v:=.pointer (some ⟨ba,0,none⟩)) (some 86) rfl rfl (by kernel_rfl) (by kernel_rfl) (by kernel_rfl) (fun _ _ _ h=>h) rfl rfl (.inl ⟨rfl,fun w _=>Rg.exec_move (v:=.pointer (some ⟨ba,0,none⟩)) _ rfl rfl⟩) (hS _) ?_;go_frame;refine Rg.Any.takeP (i:=15) (t:=9) (u:=18) (v:=.pointer (some ⟨ba,0,none⟩)) (some 87) rfl rfl (by kernel_rfl) (by kernel_rfl) (by kernel_rfl) (fun _ _ _ h=>h) rfl rfl (.inl ⟨rfl,fun w _=>exec_nil _ rfl rfl⟩) (hS _) ?_;go_frame
       refine Rg.Any.takeP (i:=16) (t:=9) (u:=18) (v:=.pointer (some ⟨ba,2,none⟩)) (some 88) rfl rfl (by kernel_rfl) (by kernel_rfl) (by kernel_rfl) (fun _ _ _ h=>h) rfl rfl (.inl ⟨rfl,fun w _=>exec_field _ rfl rfl (enF2 _ _)⟩) (hS _) ?_;go_frame;refine Rg.Any.takeB (i:=17) (t:=9) (u:=18) (v:=.int .i64 ((ka:Nat):Int)) (some 89) rfl rfl (by kernel_rfl) (by kernel_rfl) (by kernel_rfl) (fun _ _ _ h=>h) rfl rfl (by kernel_rfl) rfl (Rg.yields_cell _ _ rfl rfl ⟨ba,2,none⟩ rfl (fun W hW=>run_loadInt hW.2)) (hS _) ?_;go_frame;refine duo2 (i:=9) (j:=18) (di:=81) (dj:=90) (I:=fun W=>Below w124.heap.size w124 W) (R1:=fun u W=>Rg.NPF w124 W u (Ma.mulN xb xa)) (R2:=fun v W=>v=.slice (some ⟨w124.heap.size,0,none⟩) 2 2∧W=w124.alloc (.cells #[.int .i64 ((kb:Nat):Int),.int .i64 ((ka:Nat):Int)] 3)) (R:=fun u v W=>NewPI FVq w124 (Ma.mulN xb xa) ((kb:Nat):Int) ((ka:Nat):Int) u v W) hSB (by decide) (by decide) (by kernel_rfl) (by kernel_rfl) (by kernel_rfl) ?_ ?_ ?_ ?_ ?_
       ·refine dCall rfl rfl rfl _ _ (exec_fn 44 _ _ _ rfl rfl rfl (Bgcl6 _ _)) ?_
        refine (fcMul_any _ _ xb xa w124 XA.out.np XB.out.np (fun q hq=>by rw [GXB.out.2]; exact gd_mem GXA.out hq) (by rw [GXA.out.2]; omega) (by rw [GXA.out.2]; exact hn1) (by rw [GXB.out.2]; exact hn1)).mono ?_;rintro e1 W ⟨u,rfl,hu,hb⟩;exact ⟨u,rfl,hb,hu⟩
       ·intro u W hI hu
        have hn:Below W.heap.size W (W.alloc (.cells #[.int .i64 ((kb:Nat):Int),.int .i64 ((ka:Nat):Int)] 3)):=(Below.refl _ _).alloc (Nat.le_refl _) _;exact dRun rfl rfl rfl (exec_buildSlice2 _ _ _ _ rfl rfl rfl (run_build2N W _ _)) (Rg.acc hI hn) (NewPI.one hu.1 hu.2 (by rw [Ma.len_mulN,GXA.out.2]; exact hn1) hI _ _)
       ·have hn:Below w124.heap.size w124 (w124.alloc (.cells #[.int .i64 ((kb:Nat):Int),.int .i64 ((ka:Nat):Int)] 3)):=(Below.refl _ _).alloc (Nat.le_refl _) _
        exact dRun rfl rfl rfl (exec_buildSlice2 _ _ _ _ rfl rfl rfl (run_build2N w124 _ _)) hn ⟨rfl,rfl⟩
       ·rintro v W hI ⟨rfl,rfl⟩
        refine dCall rfl rfl rfl _ _ (exec_fn 44 _ _ _ rfl rfl rfl (Bgcl6 _ _)) ?_;refine (fcMul_any _ _ xb xa _ (Rg.NP.below XA.out.np hI) (Rg.NP.below XB.out.np hI) (fun q hq=>by rw [GXB.out.2]; exact gd_mem GXA.out hq) (by rw [GXA.out.2]; omega) (by rw [GXA.out.2]; exact hn1) (by rw [GXB.out.2]; exact hn1)).mono ?_;rintro e1 W ⟨u,rfl,hu,hb⟩;exact ⟨u,rfl,Rg.acc hI hb,NewPI.two _ _ hu (by rw [Ma.len_mulN,GXA.out.2]; exact hn1) hb⟩
       rintro W8 u8 v8 hI hnw;have TM8:=ι (NewPI.tm TM.out hI hnw);have RW8:=ι (hnw.rw hI TM.out.Flt TM.out.Mlt)
       have K8:=ι (K.out.grow (P:=fun k=>v8.ownBlock=some k) (Q:=fun k=>u8.ownBlock=some k) hI hnw.1 (fun k e=>by
        obtain ⟨_,_,g,rfl,hg,_,_⟩:=hnw
        exact Nat.le_trans hg (own_eq e)))
       have X8:=ι hnw.2.1;clear hnw TM K EA EB AA AB XA XB hS;go_frame;have hS8:=hSB;refine Rg.Any.one (i:=19) (by kernel_rfl) (Rg.Any.ask (some 91) rfl rfl rfl _ _ (exec_fn3 91 _ _ _ _ rfl rfl rfl rfl (Dicl0 _ _)) ?_)
       refine (insert_t (parts:=[kb,ka]) HG.out FL.out.tb TM8.out hn1 hn2 X8.out HGR.out RW8.out ⟨Nat.le_succ _,Nat.le_refl _⟩ (fun q hq=>by
        rcases List.mem_cons.1 hq with hq | hq
        ·exact ⟨_,by rw [hq]; exact HTA.out⟩
        ·rw [List.mem_singleton] at hq; exact ⟨_,by rw [hq]; exact HTB.out⟩) (by show Ma.mulN (T9p.getD kb []) (T9p.getD ka [])=_; rw [List.getD_eq_getElem?_getD,List.getD_eq_getElem?_getD,HTA.out,HTB.out]; rfl) HTL.out.1).mono ?_
       rintro e1 W9q ⟨F9q,sv9q,lv9q,S9q,T9q,es9q,rfl,hin9,hT9,hg9⟩;refine ⟨_,rfl,⟨.inl rfl,.inl rfl⟩,?_⟩;go_frame;refine Rg.Any.done (by kernel_rfl) ?_ _;have FL9:=ι (FL.out.ins hin9);have HSA9:=ι (show ∀ s,s∈gs→Cm.Sd N (Cm.idT N (trE es9q)) N s from fun s hs=>Cm.Sd.mono (fun a b u _=>hin9.mono a b u) (HSA.out s hs));have TM9:=ι hT9;have K9:=ι (K8.out.trans hg9);have MA9:=ι (hin9.mem MA.out);have MB9:=ι (hin9.mem MB.out);have HLE9:=ι hin9.len;have HPR:=ι (hin9.pr HXB.out HXA.out rfl);have HPP:=ι (hin9.pp HP.out HIL.out HKI.out)
       have HXA9:=ι (show (es9q.map (·.x))[i]?=some xa by
        obtain ⟨m,hm⟩:=hin9.xs
        rw [hm,List.getElem?_append_left (List.getElem?_eq_some_iff.1 HXA.out).1]; exact HXA.out)
       have HXB9:=ι (show (es9q.map (·.x))[k]?=some xb by
        obtain ⟨m,hm⟩:=hin9.xs
        rw [hm,List.getElem?_append_left (List.getElem?_eq_some_iff.1 HXB.out).1]; exact HXB.out)
       have HTL9:=ι (FL9.out.tl hn2 hgl);have HIL9:=ι (show i<es9q.length by have:=HLE9.out; have:=HIL.out; omega);clear hT9 hg9 hin9 FL HSA TM8 K8 RW8 X8 MA MB HXA HXB HTL HIL HP hI hSB hS8 GXA GXB HTA HTB HGR HLE9;have HPN:=ι (HPP.out.step1 HPR.out).next
       have hk256:k<256:=by have:=HKI.out; have:=HI256.out; omega
       go_upto_region 11 with (fail);refine Rg.wl ?_;refine Rg.lm 36 (.int .i64 ((k:Nat):Int)) ?_;go_frame;refine Rg.lr 37 (exec_bin (R:=.int .i64 (((k+1):Nat):Int)) .add _ _ _ rfl rfl rfl (b_add _ (by omega) (by omega))) ?_;go_frame;refine Rg.la 7 (.int .i64 (((k+1):Nat):Int)) ?_;go_frame;go_wp2
       go_roundw
       case rel=>exact ⟨k+1,_,_,_,_,_,_,by go_num,Nat.succ_le_succ HKI.out,HIL9.out,FL9,HSA9,HPN,TM9,K9⟩
       case measure=>simp [intOf]; have:=HKI.out; have:=HI256.out; omega
end Go.Proofs.YtdnmmibchbceeaaGreat

namespace Go.Proofs.YtdnmmibchbceeaaGreat
open Go.RowKit
open Go.Proofs
open Go.Proofs.Ob
attribute [local irreducible] Go.Calls
theorem run_storeEn {w:World} {b o:Nat} {u v:Value} (hv:∃ q,v=.pointer q) (h:w.cell? ⟨b,o,none⟩=some u) (hf:w.frozen? ⟨b,o,none⟩=false) :
  (storeVar 110 ⟨b,o,none⟩ v).run Tryz.prog w=.ok () (w.setCell ⟨b,o,none⟩ v):=by
 obtain ⟨q,rfl⟩:=hv;obtain ⟨i0,hi,hz0,hz1,hz2⟩:=info_parts infoEnp
 have h0:(⟨b,o,none⟩:Addr).add 0=⟨b,o,none⟩:=by simp [Addr.add]
 simp [storeVar,sizeOf,typeInfo,hi,hz1,Value.cells,storeCells,store,h0];simp [Sem.run,h,hf]
theorem yields_indexE {ops:Array Oper} {S:World→Prop} {o:Oper} {a:Act} (x y:Operand) (hg:Region.wanted o (yielded ops a.tmps)=true) (ho:o.op=.indexAddr 102 x y) (b len cap i:Nat) (hx:a.eval x=.slice (some ⟨b,0,none⟩) len cap) (hy:a.eval y=.int .i64 (i:Int)) (hi:i<len) :
  YieldsIf Tryz.prog ops S o (.pointer (some ⟨b,i,none⟩)) a:=by
 have:=Rg.yields_index (S:=S) slEnts x y hg ho b 0 len cap i hx hy hi
 rwa [Nat.zero_add] at this
theorem exec_indexE {o:Oper} {a:Act} {w:World} (x y:Operand) (ho:o.op=.indexAddr 102 x y) (b len cap i:Nat) (hx:a.eval x=.slice (some ⟨b,0,none⟩) len cap) (hy:a.eval y=.int .i64 (i:Int)) (hi:i<len) :
  (execOp a.eval o).run Tryz.prog w=.ok (.value (.pointer (some ⟨b,i,none⟩))) w:=by
 have:=Rg.run_indexSl slEnts w b 0 len cap i hi;rw [Nat.zero_add] at this;unfold execOp;simp only [ho,hx,hy,Sem.run_bind,Sem.run_pure,Result.andThen_ok,this]
theorem ReverseE_row (b n m cap:Nat) (g:Nat→Value) (w w0:World) (hm:m≤n) (hn:m≤64) (hc:m≤cap) (hcl:∀ j,j<m→∃ q,g j=Value.pointer q) (hr:w.rowIs b 110 n (fun j=>g j)) (hb:Below w0.heap.size w0 w) (hB:w0.heap.size≤b) :
  Calls Tryz.prog 66 #[.slice (some ⟨b,0,none⟩) m cap] w fun e w'=>(∃ v,e=.returned v)∧w'.rowIs b 110 n (fun j=>(if j<m then g (m - 1 - j) else g j))∧Below w0.heap.size w0 w':=by
 have Hr:=ι hr;clear hr
 go_enter Tryz.func66,Tryz.ntmps66
 go_wp2
 go_loopw [2,3] (fun u v wr=>∃ (k:Nat) (j:Int),u=.int .i64 k∧v=.int .i64 j∧j+k+1=m∧k≤m∧Hid (wr.rowIs b 110 n (fun x=>(if x<m∧(x<k∨m≤x+k) then g (m - 1 - x) else g x)))∧Below w0.heap.size w0 wr) (fun u _ _=>m - (intOf u).toNat)
 case atStart=>exact ⟨0,_,rfl,rfl,by omega,by omega,Hr.out.congr (fun i hi=>by rw [if_neg (by omega)]),hb⟩
 case round =>
  clear Hr hb;obtain ⟨k,j,rfl,rfl,hj,hk,hs,hbel⟩:=hrel
  by_cases hlt:(k:Int)<j
  ·obtain ⟨jn,rfl⟩:∃ jn:Nat,j=jn:=⟨j.toNat,by omega⟩
   have hjn:jn+k+1=m:=by omega
   have hkj:k<jn:=by omega
   have ck:=hs.out.cell (show k<n by omega);have cj:=hs.out.cell (show jn<n by omega);rw [if_neg (by omega)] at ck cj;have fk:=hs.out.frozen k;have fj:=hs.out.frozen jn;go_upto_region 3 with (fail);have hsd:(World.drew wr).rowIs b 110 n (fun x=>(if x<m∧(x<k∨m≤x+k) then g (m - 1 - x) else g x)):=hs.out;have hbd:Below w0.heap.size w0 (World.drew wr):=hbel.drew;have hT:(World.drew wr).cell? ⟨b,k,none⟩=some (g k)∧(World.drew wr).cell? ⟨b,jn,none⟩=some (g jn):=⟨ck,cj⟩;have hfk:(World.drew wr).frozen? ⟨b,k,none⟩=false:=fk;have hfj:(World.drew wr).frozen? ⟨b,jn,none⟩=false:=fj;have HS:=ι hsd;clear hsd ck cj fk fj hs hbel;refine Rg.Any.begin (S:=Rg.Both 13 (fun W=>W.cell? ⟨b,k,none⟩=some (g k)∧W.cell? ⟨b,jn,none⟩=some (g jn)) (fun _=>True)) mix ?_;generalize World.drew wr=W at *;have hS:∀ l,Rg.Both 13 (fun W=>W.cell? ⟨b,k,none⟩=some (g k)∧W.cell? ⟨b,jn,none⟩=some (g jn)) (fun _=>True) l W:=fun l=>⟨.inr hT,trivial⟩
   refine Rg.tg 0 13 (.slice (some ⟨b,0,none⟩) m cap) 14 rfl rfl (.inl ⟨rfl,fun W hW=>Rg.exec_move _ rfl rfl⟩) (hS _) ?_;go_frame;refine Rg.tg 1 13 (.int .i64 (k:Int)) 15 rfl rfl (.inl ⟨rfl,fun W hW=>Rg.exec_move _ rfl rfl⟩) (hS _) ?_;go_frame;refine Rg.tg 2 13 (.slice (some ⟨b,0,none⟩) m cap) 16 rfl rfl (.inl ⟨rfl,fun W hW=>Rg.exec_move _ rfl rfl⟩) (hS _) ?_;go_frame;refine Rg.tg 3 13 (.int .i64 (jn:Int)) 17 rfl rfl (.inl ⟨rfl,fun W hW=>Rg.exec_move _ rfl rfl⟩) (hS _) ?_;go_frame;refine Rg.tg 4 13 (.slice (some ⟨b,0,none⟩) m cap) 18 rfl rfl (.inl ⟨rfl,fun W hW=>Rg.exec_move _ rfl rfl⟩) (hS _) ?_;go_frame;refine Rg.tg 5 13 (.int .i64 (jn:Int)) 19 rfl rfl (.inl ⟨rfl,fun W hW=>Rg.exec_move _ rfl rfl⟩) (hS _) ?_;go_frame;refine Rg.tg 6 13 (.pointer (some ⟨b,jn,none⟩)) 20 rfl rfl (yields_indexE _ _ rfl rfl b m cap jn rfl rfl (by omega)) (hS _) ?_;go_frame;refine Rg.Any.takeT (i:=7) (t:=13) (v:=g jn) (some 21) rfl rfl (by kernel_rfl) (by kernel_rfl) (by kernel_rfl) (fun _ _ _ h=>h) rfl (by kernel_rfl) rfl (Rg.yields_cell _ _ rfl rfl ⟨b,jn,none⟩ rfl (fun w h=>Rg.run_loadPtr _ _ Tryz.underlying110 h.2)) (hS _) ?_;go_frame
   refine Rg.tg 8 13 (.slice (some ⟨b,0,none⟩) m cap) 22 rfl rfl (.inl ⟨rfl,fun W hW=>Rg.exec_move _ rfl rfl⟩) (hS _) ?_;go_frame;refine Rg.tg 9 13 (.int .i64 (k:Int)) 23 rfl rfl (.inl ⟨rfl,fun W hW=>Rg.exec_move _ rfl rfl⟩) (hS _) ?_;go_frame;refine Rg.tg 10 13 (.pointer (some ⟨b,k,none⟩)) 24 rfl rfl (yields_indexE _ _ rfl rfl b m cap k rfl rfl (by omega)) (hS _) ?_;go_frame;refine Rg.Any.takeT (i:=11) (t:=13) (v:=g k) (some 25) rfl rfl (by kernel_rfl) (by kernel_rfl) (by kernel_rfl) (fun _ _ _ h=>h) rfl (by kernel_rfl) rfl (Rg.yields_cell _ _ rfl rfl ⟨b,k,none⟩ rfl (fun w h=>Rg.run_loadPtr _ _ Tryz.underlying110 h.1)) (hS _) ?_;go_frame;refine Rg.Any.one (i:=12) (by kernel_rfl) (Rg.Any.run (some 26) rfl rfl rfl (exec_indexE _ _ rfl b m cap k rfl rfl (by omega)) (hS _) ?_);go_frame;refine Rg.Any.one (i:=13) (by kernel_rfl) (Rg.Any.runSkip none rfl rfl rfl (Rg.exec_store _ _ _ rfl _ rfl (g jn) rfl (run_storeEn (hcl jn (by omega)) hT.1 hfk)) ⟨.inl rfl,trivial⟩ ?_)
   go_frame
   have hcj2:(W.setCell ⟨b,k,none⟩ (g jn)).cell? ⟨b,jn,none⟩=some (g jn):=by
    rw [World.cell?_setCell_other (h:=by intro e; injection e with e1 e2; omega) ..]
    exact hT.2
   have hfj2:(W.setCell ⟨b,k,none⟩ (g jn)).frozen? ⟨b,jn,none⟩=false:=by rw [World.frozen?_setCell]; exact hfj
   refine Rg.Any.one (i:=14) (by kernel_rfl) (Rg.Any.run (some 27) rfl rfl rfl (exec_indexE _ _ rfl b m cap jn rfl rfl (by omega)) ⟨.inl rfl,trivial⟩ ?_);go_frame;refine Rg.Any.one (i:=15) (by kernel_rfl) (Rg.Any.runSkip none rfl rfl rfl (Rg.exec_store _ _ _ rfl _ rfl (g k) rfl (run_storeEn (hcl k (by omega)) hcj2 hfj2)) ⟨.inl rfl,trivial⟩ ?_);go_frame;refine Rg.Any.done (by kernel_rfl) ?_ _;have hrow:=(HS.out.set k (g jn)).set jn (g k);have hbl:Below w0.heap.size w0 ((W.setCell ⟨b,k,none⟩ (g jn)).setCell ⟨b,jn,none⟩ (g k)):=(hbd.setCell hB _).setCell hB _;clear hcj2 hfj2 hS hT hfk hfj HS hbd;generalize (W.setCell ⟨b,k,none⟩ (g jn)).setCell ⟨b,jn,none⟩ (g k)=W2 at *;have HR:=ι hrow;clear hrow;go_wp2
   go_roundw
   case rel =>
    refine ⟨k+1,(jn:Int) - 1,by go_num,by go_num,by omega,by omega,ι (HR.out.congr fun x hx=>?_),hbl⟩
    by_cases e1:x=jn
    ·rw [if_pos e1,if_pos (by omega),show m - 1 - x=k from by omega]
    ·rw [if_neg e1]
     by_cases e2:x=k
     ·rw [if_pos e2,if_pos (by omega),show m - 1 - x=jn from by omega]
     ·rw [if_neg e2]
      by_cases e3:x<m∧(x<k∨m≤x+k)
      ·rw [if_pos e3,if_pos (by omega)]
      ·rw [if_neg e3,if_neg (by omega)]
   case measure=>simp [intOf]; omega
  ·go_wp2
   go_end0
   refine ⟨⟨_,rfl⟩,hs.out.congr fun x hx=>?_,hbel⟩
   by_cases e1:x<m
   ·rw [if_pos e1]
    by_cases e2:x<m∧(x<k∨m≤x+k)
    ·rw [if_pos e2]
    ·rw [if_neg e2,show m - 1 - x=x from by omega]
   ·rw [if_neg e1,if_neg (by omega)]
theorem rowE_own {w:World} {g n cap B:Nat} {e:TypeId} {us:List Value} (h:w.ownsRow B e 1 (.slice (some ⟨g,0,none⟩) n cap) n us):n≤cap∧B≤g∧∃ V:Nat→Value,w.rowIs g e cap V∧∀ i (hi:i<us.length),V i=us[i]:=by
 obtain ⟨h1,h2⟩:=h
 rcases h2 with ⟨h3,_⟩ | ⟨g',cap',cur,h3,hB,hc,h5,h6,h7,h8⟩
 ·cases h3
 ·simp only [Value.slice.injEq,Option.some.injEq,Addr.mk.injEq,and_true,true_and] at h3
  obtain ⟨rfl,rfl⟩:=h3
  have hl:us.length=n:=by omega
  have hus:∀ i (hi:i<us.length),cur[i]?=some us[i]:=fun i hi=>by
   rw [← Array.getElem?_toList,← List.getElem?_eq_getElem hi,← h8,List.getElem?_take_of_lt (by omega)]
  refine ⟨h5,hB,fun i=>(cur[i]?).getD undef,⟨cur,hc,by omega,fun i hi=>?_⟩,fun i hi=>?_⟩
  ·show cur[i]?=some ((cur[i]?).getD undef)
   rw [Array.getElem?_eq_getElem (by omega)]; rfl
  ·show (cur[i]?).getD undef=_
   rw [hus i hi]; rfl
theorem ownE_row {w:World} {g n cap B:Nat} {e:TypeId} {us:List Value} {V:Nat→Value} (h:w.rowIs g e cap V) (hB:B≤g) (hn:n≤cap) (hc:cap≤maxLen) (hl:us.length=n) (hV:∀ i (hi:i<us.length),V i=us[i]):w.ownsRow B e 1 (.slice (some ⟨g,0,none⟩) n cap) n us:=by
 obtain ⟨cur,h1,h2,h3⟩:=h;refine ⟨by omega,.inr ⟨g,cap,cur,rfl,hB,h1,hn,hc,by omega,?_⟩⟩
 apply List.ext_getElem?
 intro i
 by_cases hi:i<us.length
 ·rw [List.getElem?_take_of_lt (by omega),Array.getElem?_toList,h3 i (by omega),hV i hi,List.getElem?_eq_getElem hi]
 ·rw [List.getElem?_eq_none (by simp; omega),List.getElem?_eq_none (by omega)]
theorem row_cap {w:World} {g n cap B:Nat} {e:TypeId} {us:List Value} (h:w.ownsRow B e 1 (.slice (some ⟨g,0,none⟩) n cap) n us):cap≤maxLen:=by
 obtain ⟨h1,h2⟩:=h
 rcases h2 with ⟨h3,_⟩ | ⟨g',cap',cur,h3,hB,hc,h5,h6,h7,h8⟩
 ·cases h3
 ·simp only [Value.slice.injEq,Option.some.injEq,Addr.mk.injEq,and_true,true_and] at h3
  obtain ⟨rfl,rfl⟩:=h3;exact h6
theorem reverseE {B:Nat} {w0 w:World} {uv:Value} {n:Nat} {us:List Value} (h:w.ownsRow B 110 1 uv n us) (hcl:∀ u∈us,∃ q,u=Value.pointer q) (hn:n≤64) (hb:Below w0.heap.size w0 w) (hB:w0.heap.size≤B) :
  Calls Tryz.prog 66 #[uv] w fun e w'=>(∃ v,e=.returned v)∧w'.ownsRow B 110 1 uv n us.reverse∧Below w0.heap.size w0 w':=by
 obtain ⟨a,c,hs⟩:=Rg.row_shape h;subst hs
 have hl:us.length=n:=by have:=h.1; omega
 cases a with
 | none =>
  have hn0:n=0:=by
   obtain ⟨_,h2⟩:=h
   rcases h2 with ⟨_,h4⟩ | ⟨g,cap,cur,h3,_⟩
   ·exact h4
   ·cases h3
  subst hn0;have hus:us=[]:=List.eq_nil_of_length_eq_zero hl;subst hus;have H:=ι h;clear h hcl hl
  go_enter Tryz.func66,Tryz.ntmps66
  go_wp2
  go_loopw [2,3] (fun u v wr=>u=.int .i64 0∧v=.int .i64 (-1)∧Hid (wr.ownsRow B 110 1 (.slice none 0 c) 0 [])∧Below w0.heap.size w0 wr) (fun u _ _=>0)
  case atStart=>exact ⟨rfl,rfl,H,hb⟩
  case round =>
   clear H hb;obtain ⟨rfl,rfl,H,hb⟩:=hrel;go_wp2
   first
   | go_end0
   | refine bodyPost_ret (results_none rfl _ _ _) rfl ?_
   exact ⟨⟨_,rfl⟩,H.out,hb⟩
 | some ad =>
  obtain ⟨g,hg⟩:∃ g,ad=⟨g,0,none⟩:=by
   obtain ⟨_,h2⟩:=h
   rcases h2 with ⟨h4,_⟩ | ⟨g,cap,cur,h3,_⟩
   ·cases h4
   ·simp only [Value.slice.injEq,Option.some.injEq] at h3
    exact ⟨g,h3.1⟩
  subst hg;have hc:=row_cap h;obtain ⟨h1,h2,V,h3,h4⟩:=rowE_own h;refine (ReverseE_row g c n c V w w0 h1 hn h1 (fun j hj=>?_) h3 hb (Nat.le_trans hB h2)).mono ?_
  ·rw [h4 j (by omega)]; exact hcl _ (List.getElem_mem _)
  ·rintro e w' ⟨hv,hr,hbb⟩
   refine ⟨hv,ownE_row hr h2 h1 hc (by rw [List.length_reverse]; exact hl) (fun i hi=>?_),hbb⟩;rw [List.length_reverse] at hi;rw [if_pos (by omega),List.getElem_reverse,h4 _ (by omega)]
   congr 1
   omega
end Go.Proofs.YtdnmmibchbceeaaGreat

namespace Go.Proofs.YtdnmmibchbceeaaGreat
open Go.RowKit
open Go.Proofs
open Go.Proofs.Ob
open Go.Proofs.Cm (Gd Gr IsChain ap)
attribute [local irreducible] Go.Calls Go.wpList
theorem Bwcl4 (args:Array Value) (w:World):(callFunc 61 args).run Tryz.prog w=.ok (.enter 61 args) w:=by kernel_rfl
def rgC (d:Int) (ll:List (List Int)) (xl:List Int):Int:=if Ma.gchk d ll=0 then (if Ma.pchk xl=0 then (if (xl.length:Int)=d then 0 else 10) else Ma.pchk xl) else Ma.gchk d ll
theorem rgC_1 {d:Int} {ll:List (List Int)} {xl:List Int} (h:Ma.gchk d ll≠0):rgC d ll xl=Ma.gchk d ll:=if_neg h
theorem rgC_2 {d:Int} {ll:List (List Int)} {xl:List Int} (h:Ma.gchk d ll=0) (h2:Ma.pchk xl≠0):rgC d ll xl=Ma.pchk xl:=by unfold rgC; rw [if_pos h,if_neg h2]
theorem rgC_3 {d:Int} {ll:List (List Int)} {xl:List Int} (h:Ma.gchk d ll=0) (h2:Ma.pchk xl=0) (h3:¬ (xl.length:Int)=d):rgC d ll xl=10:=by unfold rgC; rw [if_pos h,if_pos h2,if_neg h3]
theorem rgC_4 {d:Int} {ll:List (List Int)} {xl:List Int} (h:Ma.gchk d ll=0) (h2:Ma.pchk xl=0) (h3:(xl.length:Int)=d):rgC d ll xl=0:=by unfold rgC; rw [if_pos h,if_pos h2,if_pos h3]
theorem rgC_get {d:Int} {ll:List (List Int)} {xl:List Int} (h:rgC d ll xl=0):Ma.gchk d ll=0∧∃ x N,xl=Ma.ofN x∧d=((N:Nat):Int)∧Gd N x:=by
 by_cases h1:Ma.gchk d ll=0
 ·by_cases h2:Ma.pchk xl=0
  ·by_cases h3:(xl.length:Int)=d
   ·obtain ⟨x,rfl,hx⟩:=Ma.okL_ofN (Ma.pchk_zero h2).2.2
    rw [Ma.len_ofN] at h3;exact ⟨h1,x,x.length,rfl,h3.symm,hx,rfl⟩
   ·rw [rgC_3 h1 h2 h3] at h; cases h
  ·rw [rgC_2 h1 h2] at h; exact absurd h h2
 ·rw [rgC_1 h1] at h; exact absurd h h1
theorem fcRight_any (gv xv:Value) (d:Int) (ll:List (List Int)) (xl:List Int) (w:World) (h:Rg.Rows w gv ll) (hx:Rg.Ints w xv xl) :
  Calls Tryz.prog 61 #[.agg #[.int .i64 d,gv],xv] w fun e w'=>e=.returned (.int .i64 (rgC d ll xl))∧Below w.heap.size w w':=by
 obtain ⟨xa,xc,rfl,-⟩:=hx.shape;have HX:=ι (NpI.mk hx);clear hx;obtain ⟨ga,gc,rfl,hga,hba⟩:=GI.enter (d) h;have K:=ι hba;have G0:=ι hga;clear h hga hba;obtain ⟨ck,hck⟩:∃ c,Hid (Ma.gchk d ll=c):=⟨_,ι rfl⟩;obtain ⟨pk,hpk⟩:∃ c,Hid (Ma.pchk xl=c):=⟨_,ι rfl⟩;replace HX:=ι (HX.out.below ((Below.refl _ _).alloc (Nat.le_refl _) (.cells #[.int .i64 d,.slice ga ll.length gc] 24)))
 go_enter Tryz.func61,Tryz.ntmps61
 go_upto_region 0 with (fail);refine Rg.wl ?_;refine Rg.lr 2 (Rg.exec_box _ _ rfl rfl) ?_;go_frame;refine Rg.la 4 (.int .i64 0) ?_;go_frame;generalize w.alloc (.cells #[.int .i64 d,.slice ga ll.length gc] 24)=w0 at *;go_upto_region 1 with (fail);refine Rg.wl ?_;refine Rg.lr 7 (Rg.exec_load (v:=.agg #[.int .i64 d,.slice ga ll.length gc]) _ _ rfl ⟨w.heap.size,0,none⟩ rfl (run_loadG G0.out.c0 G0.out.c1)) ?_;go_frame;refine Rg.lk 8 (exec_fn1 40 _ _ rfl rfl (Wbcl0 _ _)) ?_;refine (orbitCheck_any _ d ll w0 G0.out.rows).mono ?_;rintro e1 w1 ⟨rfl,hb⟩;rw [hck.out];refine ⟨_,rfl,?_⟩;go_frame;replace G0:=ι (G0.out.below hb);replace HX:=ι (HX.out.below hb);replace K:=ι (Rg.acc K.out hb);clear hb;refine Rg.la 5 (.int .i64 ck) ?_;go_frame
 by_cases h0:ck=0
 case neg =>
  skip
  go_upto_region 2 with (fail);refine Rg.wl ?_;refine Rg.lm 9 (.int .i64 ck) ?_;go_frame;refine Rg.lr 10 (exec_bin (R:=.bool true) .neq _ _ _ rfl rfl rfl (b_neqB _ (decide_eq_true h0))) ?_;go_frame;go_upto_region 3 with (fail);refine Rg.wl ?_;refine Rg.lm 11 (.int .i64 ck) ?_;go_frame;refine Rg.la 4 (.int .i64 ck) ?_;go_frame;go_wp2;go_ret;exact ⟨by rw [rgC_1 (by rw [hck.out]; exact h0),hck.out]; rfl,K.out⟩
 case pos =>
  have HZ:=ι (hck.out.trans h0);go_upto_region 2 with (fail);refine Rg.wl ?_;refine Rg.lm 9 (.int .i64 ck) ?_;go_frame;refine Rg.lr 10 (exec_bin (R:=.bool false) .neq _ _ _ rfl rfl rfl (b_neqB _ (decide_eq_false (fun e=>e h0)))) ?_;go_frame;clear h0;go_upto_region 4 with (fail);refine Rg.wl ?_;refine Rg.lm 12 (.slice xa xl.length xc) ?_;go_frame;refine Rg.lk 13 (exec_fn1 75 _ _ rfl rfl (Wvcl1 _ _)) ?_;refine (permCheck_any _ _ w1 HX.out.i).mono ?_;rintro e1 w22 ⟨rfl,hb⟩;rw [hpk.out];refine ⟨_,rfl,?_⟩;go_frame;replace G0:=ι (G0.out.below hb);replace HX:=ι (HX.out.below hb);replace K:=ι (Rg.acc K.out hb);clear hb;refine Rg.la 6 (.int .i64 pk) ?_;go_frame
  by_cases h1:pk=0
  case neg =>
   skip
   go_upto_region 5 with (fail);refine Rg.wl ?_;refine Rg.lm 14 (.int .i64 pk) ?_;go_frame;refine Rg.lr 15 (exec_bin (R:=.bool true) .neq _ _ _ rfl rfl rfl (b_neqB _ (decide_eq_true h1))) ?_;go_frame;go_upto_region 6 with (fail);refine Rg.wl ?_;refine Rg.lm 16 (.int .i64 pk) ?_;go_frame;refine Rg.la 4 (.int .i64 pk) ?_;go_frame;go_wp2;go_ret;exact ⟨by rw [rgC_2 HZ.out (by rw [hpk.out]; exact h1),hpk.out]; rfl,K.out⟩
  case pos =>
   have HY:=ι (hpk.out.trans h1);go_upto_region 5 with (fail);refine Rg.wl ?_;refine Rg.lm 14 (.int .i64 pk) ?_;go_frame;refine Rg.lr 15 (exec_bin (R:=.bool false) .neq _ _ _ rfl rfl rfl (b_neqB _ (decide_eq_false (fun e=>e h1)))) ?_;go_frame;clear h1
   by_cases h2:(xl.length:Int)=d
   case neg =>
    skip
    go_upto_region 7 with (fail);refine Rg.wl ?_;refine Rg.lm 17 (.slice xa xl.length xc) ?_;go_frame;refine Rg.lr 18 (exec_len _ _ _ rfl Tryz.underlying30 _ _ _ rfl) ?_;go_frame;refine Rg.lr 19 (exec_fieldG0 _ rfl rfl) ?_;go_frame;refine Rg.lr 20 (Rg.exec_load (v:=.int .i64 d) _ _ rfl ⟨w.heap.size,0,none⟩ rfl (run_loadInt G0.out.c0)) ?_;go_frame;refine Rg.lr 21 (exec_bin (R:=.bool true) .neq _ _ _ rfl rfl rfl (b_neqB _ (decide_eq_true h2))) ?_;go_frame;go_upto_region 8 with (fail);refine Rg.wl ?_;refine Rg.la 4 (.int .i64 ((10:Nat):Int)) ?_;go_frame;go_wp2;go_ret;exact ⟨by rw [rgC_3 HZ.out HY.out h2]; rfl,K.out⟩
   case pos =>
    skip
    go_upto_region 7 with (fail);refine Rg.wl ?_;refine Rg.lm 17 (.slice xa xl.length xc) ?_;go_frame;refine Rg.lr 18 (exec_len _ _ _ rfl Tryz.underlying30 _ _ _ rfl) ?_;go_frame;refine Rg.lr 19 (exec_fieldG0 _ rfl rfl) ?_;go_frame;refine Rg.lr 20 (Rg.exec_load (v:=.int .i64 d) _ _ rfl ⟨w.heap.size,0,none⟩ rfl (run_loadInt G0.out.c0)) ?_;go_frame;refine Rg.lr 21 (exec_bin (R:=.bool false) .neq _ _ _ rfl rfl rfl (b_neqB _ (decide_eq_false (fun e=>e h2)))) ?_;go_frame;go_upto_region 9 with (fail);refine Rg.wl ?_;refine Rg.la 4 (.int .i64 ((0:Nat):Int)) ?_;go_frame;go_wp2;go_ret;exact ⟨by rw [rgC_4 HZ.out HY.out h2]; rfl,K.out⟩
def LtV (d:Int) (ll:List (List Int)) (xl:List Int) (l:List Int) (c:Int):Prop :=
 (rgC d ll xl≠0∧c=rgC d ll xl∧l=[]) ∨
  (rgC d ll xl=0∧∃ (N:Nat) (gs:List (List Nat)) (O:List (List Nat)) (R:List (List (List Nat))) (x:List Nat),d=((N:Nat):Int)∧ll=gs.map Ma.ofN∧xl=Ma.ofN x∧Gd N x∧(∀ s∈gs,Gd N s)∧IsChain N (Cm.Gr N (·∈gs)) O R ∧
   ((5040<szD O N N∧c=5∧l=[]) ∨
   (szD O N N≤5040∧∃ st:BSt,BfE (mlets gs) N st∧((x∉st.1∧c=18∧l=[])∨(x∈st.1∧c=0∧l=wdOf st x)))))
def LtPost (d:Int) (ll:List (List Int)) (xl:List Int) (w:World) (ed:Ending) (w':World):Prop:=∃ v l c,ed=.returned (.tuple #[v,.int .i64 c])∧LtV d ll xl l c∧Rg.Ints w' v l∧Below w.heap.size w w'
theorem fcLeast_any (gv xv:Value) (d:Int) (ll:List (List Int)) (xl:List Int) (w:World) (h:Rg.Rows w gv ll) (hx:Rg.Ints w xv xl) (hd:d≤12) :
  Calls Tryz.prog 22 #[.agg #[.int .i64 d,gv],xv] w (LtPost d ll xl w):=by
 obtain ⟨xa,xc,rfl,-⟩:=hx.shape;have HX:=ι (NpI.mk hx);clear hx;obtain ⟨ga,gc,rfl,hga,hba⟩:=GI.enter (d) h;have K:=ι hba;have G0:=ι hga;clear h hga hba;obtain ⟨rk,hrk⟩:∃ c,Hid (rgC d ll xl=c):=⟨_,ι rfl⟩;replace HX:=ι (HX.out.below ((Below.refl _ _).alloc (Nat.le_refl _) (.cells #[.int .i64 d,.slice ga ll.length gc] 24)))
 go_enter Tryz.func22,Tryz.ntmps22
 go_upto_region 0 with (fail);refine Rg.wl ?_;refine Rg.lr 2 (Rg.exec_box _ _ rfl rfl) ?_;go_frame;refine Rg.la 4 (.slice none 0 0) ?_;go_frame;refine Rg.la 5 (.int .i64 0) ?_;go_frame;generalize w.alloc (.cells #[.int .i64 d,.slice ga ll.length gc] 24)=w0 at *;go_upto_region 1 with (fail);refine Rg.wl ?_;refine Rg.lr 12 (Rg.exec_load (v:=.agg #[.int .i64 d,.slice ga ll.length gc]) _ _ rfl ⟨w.heap.size,0,none⟩ rfl (run_loadG G0.out.c0 G0.out.c1)) ?_;go_frame;refine Rg.lm 13 (.slice xa xl.length xc) ?_;go_frame;refine Rg.lk 14 (exec_fn 61 _ _ _ rfl rfl rfl (Bwcl4 _ _)) ?_;refine (fcRight_any _ _ d ll xl w0 G0.out.rows HX.out.i).mono ?_;rintro e1 w1 ⟨rfl,hb⟩;rw [hrk.out];refine ⟨_,rfl,?_⟩;go_frame;replace G0:=ι (G0.out.below hb);replace HX:=ι (HX.out.below hb);replace K:=ι (Rg.acc K.out hb);clear hb;refine Rg.la 6 (.int .i64 rk) ?_;go_frame
 by_cases h0:rk=0
 case neg =>
  skip
  go_upto_region 2 with (fail);refine Rg.wl ?_;refine Rg.lm 15 (.int .i64 rk) ?_;go_frame;refine Rg.lr 16 (exec_bin (R:=.bool true) .neq _ _ _ rfl rfl rfl (b_neqB _ (decide_eq_true h0))) ?_;go_frame;go_upto_region 3 with (fail);refine Rg.wl ?_;refine Rg.lm 17 (.int .i64 rk) ?_;go_frame;refine Rg.la 4 (.slice none 0 0) ?_;go_frame;refine Rg.la 5 (.int .i64 rk) ?_;go_frame;go_wp2
  go_ret2
  exact ⟨_,[],rk,rfl,.inl ⟨by rw [hrk.out]; exact h0,hrk.out.symm,rfl⟩,ints_nil _,K.out⟩
 case pos =>
  have HZ:=ι (hrk.out.trans h0);obtain ⟨hgz,x,N0,hxe,hdN,gx⟩:=rgC_get HZ.out;have HGZ:=ι hgz;have HXE:=ι hxe;have HDN:=ι hdN;have GX0:=ι gx;clear hgz hxe hdN gx;go_upto_region 2 with (fail);refine Rg.wl ?_;refine Rg.lm 15 (.int .i64 rk) ?_;go_frame;refine Rg.lr 16 (exec_bin (R:=.bool false) .neq _ _ _ rfl rfl rfl (b_neqB _ (decide_eq_false (fun e=>e h0)))) ?_;go_frame;clear h0;go_upto_region 4 with (fail);refine Rg.wl ?_;refine Rg.lr 19 (Rg.exec_load (v:=.agg #[.int .i64 d,.slice ga ll.length gc]) _ _ rfl ⟨w.heap.size,0,none⟩ rfl (run_loadG G0.out.c0 G0.out.c1)) ?_;go_frame;refine Rg.lk 20 (exec_fn1 51 _ _ rfl rfl (Bmcl0 _ _)) ?_;refine (fcSearch_v _ d ll w1 G0.out.rows hd).mono ?_;rintro e1 w22 ⟨fa,fn,fc,mo,c,rfl,hsr,hb⟩;have SR:=ι hsr;clear hsr;refine ⟨_,rfl,?_⟩;go_frame;replace G0:=ι (G0.out.below hb);replace HX:=ι (HX.out.below hb);replace K:=ι (Rg.acc K.out hb)
  clear hb;refine Rg.lm 18 (.tuple #[.slice fa fn fc,(.map mo),.int .i64 c]) ?_;go_frame;refine Rg.lr 21 (exec_extract (v:=.slice fa fn fc) _ _ rfl rfl rfl) ?_;go_frame;refine Rg.lr 22 (exec_extract (v:=(.map mo)) _ _ rfl rfl rfl) ?_;go_frame;refine Rg.lr 23 (exec_extract (v:=.int .i64 c) _ _ rfl rfl rfl) ?_;go_frame;refine Rg.la 7 (.slice fa fn fc) ?_;go_frame;refine Rg.la 8 ((.map mo)) ?_;go_frame;refine Rg.la 9 (.int .i64 c) ?_;go_frame
  rcases SR.out with ⟨h1,-,-⟩ | ⟨h1,N,gs,O,R,e1,e2,hN1,hgl,hgd,hch,⟨h2,rfl,-⟩ | ⟨h2,rfl,mb,vs,st,rfl,hbe,hbi,hl,hl1,hbf⟩⟩
  ·exact absurd HGZ.out h1
  ·skip
   have hNN:N0=N:=by have:=HDN.out; omega
   subst hNN;go_upto_region 5 with (fail);refine Rg.wl ?_;refine Rg.lm 24 (.int .i64 5) ?_;go_frame;refine Rg.lr 25 (exec_bin (R:=.bool true) .neq _ _ _ rfl rfl rfl (b_neqB _ (decide_eq_true (by decide)))) ?_;go_frame;go_upto_region 6 with (fail);refine Rg.wl ?_;refine Rg.lm 26 (.int .i64 5) ?_;go_frame;refine Rg.la 4 (.slice none 0 0) ?_;go_frame;refine Rg.la 5 (.int .i64 5) ?_;go_frame;go_wp2
   go_ret2
   exact ⟨_,[],5,rfl,.inr ⟨HZ.out,_,gs,O,R,x,e1,e2,HXE.out,GX0.out,hgd,hch,.inl ⟨h2,rfl,rfl⟩⟩,ints_nil _,K.out⟩
  ·skip
   have hNN:N0=N:=by have:=HDN.out; omega
   subst hNN;have HBM:=ι hbf;have HBI:=ι hbi;have HBE:=ι hbe
   have hN12:N0≤12:=by have:=HDN.out; omega
   have NX:=ι (show NpI w22 (.slice xa xl.length xc) (Ma.ofN x) from ⟨by have h9:=HX.out.i; generalize Value.slice xa xl.length xc=v9 at h9 ⊢; rw [HXE.out] at h9; exact h9⟩);obtain ⟨xn,hxn⟩:∃ n,Hid (xl.length=n):=⟨_,ι rfl⟩;clear hbf hbi hbe SR;go_upto_region 5 with (fail);refine Rg.wl ?_;refine Rg.lm 24 (.int .i64 0) ?_;go_frame;refine Rg.lr 25 (exec_bin (R:=.bool false) .neq _ _ _ rfl rfl rfl (b_neqB _ (decide_eq_false (by decide)))) ?_;go_frame
   by_cases hin:x∈st.1
   case neg =>
    have HNO:=ι (look_none (vs:=vs) (fun y hy=>gd_b (HBI.out.gd y hy) (by omega)) (gd_b GX0.out (by omega)) hin);go_upto_region 7 with (fail);refine Rg.wl ?_;refine Rg.lm 28 ((.map (some mb))) ?_;go_frame;refine Rg.lm 29 (.slice xa xl.length xc) ?_;go_frame;refine Rg.lk 30 (exec_fn1 56 _ _ rfl rfl (Bgcl5 _ _)) ?_;refine (key_any (x:=x) NX.out.i (by rw [GX0.out.2]; exact hN1) (by rw [GX0.out.2]; omega) (gd_b GX0.out (by omega))).mono ?_;rintro e1 w43 ⟨rfl,hb⟩;refine ⟨_,rfl,?_⟩;go_frame;replace G0:=ι (G0.out.below hb);replace HBM:=ι (HBM.out.below hb);replace NX:=ι (NX.out.below hb);replace K:=ι (Rg.acc K.out hb);clear hb;have hlk:=Sm.lookup_ok stWords HBM.out.map (keyS x);rw [HNO.out,Option.getD_none,Option.isSome_none] at hlk;refine Rg.lr 31 (Rg.exec_lookup _ _ _ _ rfl _ _ rfl rfl hlk) ?_;go_frame;clear hlk;refine Rg.lm 27 (.tuple #[(.slice none 0 0),.bool false]) ?_;go_frame
    refine Rg.lr 32 (exec_extract (v:=(.slice none 0 0)) _ _ rfl rfl rfl) ?_;go_frame;refine Rg.lr 33 (exec_extract (v:=.bool false) _ _ rfl rfl rfl) ?_;go_frame;refine Rg.la 10 ((.slice none 0 0)) ?_;go_frame;refine Rg.la 11 (.bool false) ?_;go_frame;go_upto_region 8 with (fail);refine Rg.wl ?_;refine Rg.lm 34 (.bool false) ?_;go_frame;refine Rg.lr 35 (exec_not _ _ false rfl rfl) ?_;go_frame;go_upto_region 9 with (fail);refine Rg.wl ?_;refine Rg.la 4 (.slice none 0 0) ?_;go_frame;refine Rg.la 5 (.int .i64 ((18:Nat):Int)) ?_;go_frame;go_wp2
    go_ret2
    exact ⟨_,[],18,rfl,.inr ⟨HZ.out,_,gs,O,R,x,e1,e2,HXE.out,GX0.out,hgd,hch,.inr ⟨h2,st,HBE.out,.inl ⟨hin,rfl,rfl⟩⟩⟩,ints_nil _,K.out⟩
   case pos =>
    have hix:st.1.idxOf x<st.1.length:=List.idxOf_lt_length_of_mem hin;obtain ⟨wv,hwv⟩:∃ q,Hid (vs[st.1.idxOf x]?=some q):=⟨_,ι (List.getElem?_eq_getElem (by rw [HBM.out.vl]; exact hix))⟩
    have hwd:st.2[st.1.idxOf x]?=some (wdOf st x):=by
     have h9:st.1.idxOf x<st.2.length:=by rw [HBI.out.ln]; exact hix
     unfold wdOf;rw [List.getD_eq_getElem?_getD,List.getElem?_eq_getElem h9]; rfl
    obtain ⟨hew,wb,wo,wc,hws⟩:=HBM.out.word hwv.out hwd;subst hws;have EW:=ι hew;have HLK:=ι (look_at HBI.out.nd (fun y hy=>gd_b (HBI.out.gd y hy) (by omega)) (x:=x) (by rw [List.getElem?_eq_getElem hix,List.getElem_idxOf]) hwv.out);clear hew hwd hix;go_upto_region 7 with (fail);refine Rg.wl ?_;refine Rg.lm 28 ((.map (some mb))) ?_;go_frame;refine Rg.lm 29 (.slice xa xl.length xc) ?_;go_frame;refine Rg.lk 30 (exec_fn1 56 _ _ rfl rfl (Bgcl5 _ _)) ?_;refine (key_any (x:=x) NX.out.i (by rw [GX0.out.2]; exact hN1) (by rw [GX0.out.2]; omega) (gd_b GX0.out (by omega))).mono ?_;rintro e1 w64 ⟨rfl,hb⟩;refine ⟨_,rfl,?_⟩;go_frame;replace G0:=ι (G0.out.below hb);replace HBM:=ι (HBM.out.below hb);replace NX:=ι (NX.out.below hb);replace EW:=ι (EW.out.below hb);replace K:=ι (Rg.acc K.out hb);clear hb;have hlk:=Sm.lookup_ok stWords HBM.out.map (keyS x);rw [HLK.out,Option.getD_some,Option.isSome_some] at hlk
    refine Rg.lr 31 (Rg.exec_lookup _ _ _ _ rfl _ _ rfl rfl hlk) ?_;go_frame;clear hlk;refine Rg.lm 27 (.tuple #[.slice (some ⟨wb,wo,none⟩) (wdOf st x).length wc,.bool true]) ?_;go_frame;refine Rg.lr 32 (exec_extract (v:=.slice (some ⟨wb,wo,none⟩) (wdOf st x).length wc) _ _ rfl rfl rfl) ?_;go_frame;refine Rg.lr 33 (exec_extract (v:=.bool true) _ _ rfl rfl rfl) ?_;go_frame;refine Rg.la 10 (.slice (some ⟨wb,wo,none⟩) (wdOf st x).length wc) ?_;go_frame;refine Rg.la 11 (.bool true) ?_;go_frame;go_upto_region 8 with (fail);refine Rg.wl ?_;refine Rg.lm 34 (.bool true) ?_;go_frame;refine Rg.lr 35 (exec_not _ _ true rfl rfl) ?_;go_frame;go_upto_region 10 with (fail);refine Rg.wl ?_;refine Rg.lm 36 (.slice (some ⟨wb,wo,none⟩) (wdOf st x).length wc) ?_;go_frame;refine Rg.la 4 (.slice (some ⟨wb,wo,none⟩) (wdOf st x).length wc) ?_;go_frame;refine Rg.la 5 (.int .i64 ((0:Nat):Int)) ?_;go_frame
    go_wp2
    go_ret2
    exact ⟨_,_,0,rfl,.inr ⟨HZ.out,_,gs,O,R,x,e1,e2,HXE.out,GX0.out,hgd,hch,.inr ⟨h2,st,HBE.out,.inr ⟨hin,rfl,rfl⟩⟩⟩,EW.out.ints,K.out⟩

def PgV (d:Int) (ll:List (List Int)) (xl:List Int) (S:List Stp) (c:Int):Prop :=
 (rgC d ll xl≠0∧c=rgC d ll xl∧S=[])∨(rgC d ll xl=0∧16<d∧c=5∧S=[]) ∨
 (rgC d ll xl=0∧d≤16∧∃ (N:Nat) (gs:List (List Nat)) (x:List Nat),d=((N:Nat):Int)∧ll=gs.map Ma.ofN∧xl=Ma.ofN x∧Gd N x∧(∀ s∈gs,Gd N s) ∧
  ((¬ Gr N (·∈gs) x∧c=18∧S=[]) ∨
   (Gr N (·∈gs) x∧c=0∧S.length≤N*N*(2*N+2)+N+2∧((S=[]∧x=Ma.oneN N)∨(S≠[]∧∃ T,rn S gs=(0,T)∧T.getD (T.length - 1) []=x)))))
def PgPost (d:Int) (ll:List (List Int)) (xl:List Int) (w:World) (ed:Ending) (w':World):Prop:=∃ v S c,ed=.returned (.tuple #[v,.int .i64 c])∧PgV d ll xl S c∧StA w' v S∧Below w.heap.size w w'
theorem StA.nil (w:World):StA w (.slice none 0 0) []:=⟨none,0,rfl,fun h=>absurd h (Nat.lt_irrefl 0)⟩
structure PrK (w:World) (F:Nat→Prop) (W:World):Prop where
 b:Below w.heap.size w W
 f:∀ k,k<w.heap.size→F k
theorem PrK.up {w:World} {F:Nat→Prop} {W W':World} (h:PrK w F W) (hb:Below W.heap.size W W'):PrK w (Fup F W W') W':=⟨h.b.trans (hb.mono h.b.size),fun k hk=>.inl (h.f k hk)⟩
theorem PrK.below {w:World} {F:Nat→Prop} {W W':World} (h:PrK w F W) (hb:Below W.heap.size W W'):PrK w F W':=⟨h.b.trans (hb.mono h.b.size),h.f⟩
theorem PrK.kg {w:World} {F F':Nat→Prop} {W W':World} (h:PrK w F W) (hk:KG F W F' W'):PrK w F' W':=⟨h.b.trans (hk.kf.below h.b.size h.f),fun k q=>hk.sub k (h.f k q)⟩
structure OwE (B:Nat) (W:World) (uv:Value) (n:Nat) (us:List Value):Prop where
 r:W.ownsRow B 110 1 uv n us
theorem OwE.below {B:Nat} {W W':World} {uv:Value} {n:Nat} {us:List Value} (h:OwE B W uv n us) (hb:Below W.heap.size W W'):OwE B W' uv n us:=⟨Rg.row_below h.r hb⟩
structure BlF (w0 W:World):Prop where
 b:Below w0.heap.size w0 W
theorem BlF.below {w0 W W':World} (h:BlF w0 W) (hb:Below W.heap.size W W'):BlF w0 W':=⟨Rg.acc h.b hb⟩
theorem frows_all {w:World} {v:Value} {ll:List (List Int)} (h:Rg.Rows w v ll):Rg.FRows (fun k=>k<w.heap.size) w v ll:=by
 obtain ⟨us,h1,h2⟩:=h
 have hv:∀ {u:Value} {us:List Value},Rg.Vals w u us→Rg.FVals (fun k=>k<w.heap.size) w u us:=fun {u us} h=>by
  obtain ⟨a,cap,q1,q2,q3,q4,q5⟩:=h;refine ⟨a,cap,q1,q2,q3,q4,fun h0=>?_⟩;obtain ⟨b,o,e1,e2,e3⟩:=q5 h0;exact ⟨b,o,e1,e2,e2,e3⟩
 exact ⟨us,hv h1,h2.1,fun i a b=>hv (h2.2 i a b)⟩
theorem fp_all {w:World} {v:Value} {x:List Nat} (h:Rg.NP w v x):FP (fun k=>k<w.heap.size) w v x:=by
 obtain ⟨a,cap,q1,q2,q3,q4,q5⟩:=h;refine ⟨a,cap,q1,q2,q3,q4,fun h0=>?_⟩;obtain ⟨b,o,e1,e2,e3⟩:=q5 h0;exact ⟨b,o,e1,e2,e2,e3⟩
theorem tbInit (W:World) (nx N:Nat) (t1 t2:TypeId):∃ F,TbM W.heap.size F (W.alloc (.map #[] 0)).heap.size W.heap.size N
   ((((W.alloc (.map #[] 0)).alloc (.cells #[.slice none 0 0,.int .i64 ((nx:Nat):Int),.int .i64 ((N:Nat):Int),.map (some W.heap.size),.slice none 0 0] t1)).alloc (.cells #[.pointer none] t2)).setCell ⟨((W.alloc (.map #[] 0)).alloc (.cells #[.slice none 0 0,.int .i64 ((nx:Nat):Int),.int .i64 ((N:Nat):Int),.map (some W.heap.size),.slice none 0 0] t1)).heap.size,0,none⟩ (.pointer (some ⟨(W.alloc (.map #[] 0)).heap.size,0,none⟩)))
   [] nx [] [] [] (.slice none 0 0) (.slice none 0 0) ∧
  CF F ((((W.alloc (.map #[] 0)).alloc (.cells #[.slice none 0 0,.int .i64 ((nx:Nat):Int),.int .i64 ((N:Nat):Int),.map (some W.heap.size),.slice none 0 0] t1)).alloc (.cells #[.pointer none] t2)).setCell ⟨((W.alloc (.map #[] 0)).alloc (.cells #[.slice none 0 0,.int .i64 ((nx:Nat):Int),.int .i64 ((N:Nat):Int),.map (some W.heap.size),.slice none 0 0] t1)).heap.size,0,none⟩ (.pointer (some ⟨(W.alloc (.map #[] 0)).heap.size,0,none⟩)))
   ((W.alloc (.map #[] 0)).alloc (.cells #[.slice none 0 0,.int .i64 ((nx:Nat):Int),.int .i64 ((N:Nat):Int),.map (some W.heap.size),.slice none 0 0] t1)).heap.size 0 (.pointer (some ⟨(W.alloc (.map #[] 0)).heap.size,0,none⟩)) ∧
  (∀ k,k<W.heap.size→F k)∧Below W.heap.size W ((((W.alloc (.map #[] 0)).alloc (.cells #[.slice none 0 0,.int .i64 ((nx:Nat):Int),.int .i64 ((N:Nat):Int),.map (some W.heap.size),.slice none 0 0] t1)).alloc (.cells #[.pointer none] t2)).setCell ⟨((W.alloc (.map #[] 0)).alloc (.cells #[.slice none 0 0,.int .i64 ((nx:Nat):Int),.int .i64 ((N:Nat):Int),.map (some W.heap.size),.slice none 0 0] t1)).heap.size,0,none⟩ (.pointer (some ⟨(W.alloc (.map #[] 0)).heap.size,0,none⟩))):=by
 have hm:=Jm.KMap.new W;have hb1:Below W.heap.size W (W.alloc (.map #[] 0)):=(Below.refl _ _).alloc (Nat.le_refl _) _
 have e1:(W.alloc (.map #[] 0)).heap.size=W.heap.size+1:=by simp
 generalize W.alloc (.map #[] 0)=W1 at *;have hb2:Below W1.heap.size W1 (W1.alloc (.cells #[.slice none 0 0,.int .i64 ((nx:Nat):Int),.int .i64 ((N:Nat):Int),.map (some W.heap.size),.slice none 0 0] t1)):=(Below.refl _ _).alloc (Nat.le_refl _) _
 have e2:(W1.alloc (.cells #[.slice none 0 0,.int .i64 ((nx:Nat):Int),.int .i64 ((N:Nat):Int),.map (some W.heap.size),.slice none 0 0] t1)).heap.size=W1.heap.size+1:=by simp
 have hc:∀ o (u:Value),(#[.slice none 0 0,.int .i64 ((nx:Nat):Int),.int .i64 ((N:Nat):Int),.map (some W.heap.size),.slice none 0 0]:Array Value)[o]?=some u→Cw (W1.alloc (.cells #[.slice none 0 0,.int .i64 ((nx:Nat):Int),.int .i64 ((N:Nat):Int),.map (some W.heap.size),.slice none 0 0] t1)) W1.heap.size o u:=fun o u e=>⟨by rw [Rg.cellNew]; exact e,frozenNewN _ _ _ o _,by simp⟩;have h0:=hc 0 _ rfl;have h1:=hc 1 _ rfl;have h2:=hc 2 _ rfl;have h3:=hc 3 _ rfl;have h4:=hc 4 _ rfl;clear hc;have hm2:=hm.below hb2;have hb12:=hb1.trans (hb2.mono hb1.size);generalize W1.alloc (.cells #[.slice none 0 0,.int .i64 ((nx:Nat):Int),.int .i64 ((N:Nat):Int),.map (some W.heap.size),.slice none 0 0] t1)=W2 at *
 have hT:TbM W.heap.size (fun k=>k<W.heap.size) W1.heap.size W.heap.size N W2 [] nx [] [] [] (.slice none 0 0) (.slice none 0 0):=by
  refine ⟨fun k hk=>Nat.lt_of_lt_of_le hk hb12.size,h0,h1,h2,h3,h4,Own3.nil _ _,World.ownsRow_nil _ _ _ _,hm2,fun e he=>(by cases he),?_,⟨by omega,fun e=>(by cases e),fun e=>(by cases e),fun e=>(by cases e),fun e=>(by cases e),fun k e=>(by cases e),fun e he=>(by cases he),fun e he=>(by cases he),fun e he=>(by cases he),fun e he=>(by cases he),List.nodup_nil⟩,hb12.size⟩
  rintro k hk (e | e | e | e | ⟨e,he,_⟩)
  ·omega
  ·omega
  ·cases e
  ·cases e
  ·cases he
 have c0:(W2.alloc (.cells #[.pointer none] t2)).cell? ⟨W2.heap.size,0,none⟩=some (.pointer none):=by rw [Rg.cellNew]; rfl
 have hb3:Below W2.heap.size W2 ((W2.alloc (.cells #[.pointer none] t2)).setCell ⟨W2.heap.size,0,none⟩ (.pointer (some ⟨W1.heap.size,0,none⟩))):=((Below.refl _ _).alloc (Nat.le_refl _) _).setCell (p:=⟨W2.heap.size,0,none⟩) (Nat.le_refl _) _
 have hlt:W2.heap.size<((W2.alloc (.cells #[.pointer none] t2)).setCell ⟨W2.heap.size,0,none⟩ (.pointer (some ⟨W1.heap.size,0,none⟩))).heap.size:=by simp [World.setCell]
 exact ⟨_,hT.up hb3,⟨World.cell?_setCell_same (h:=c0) ..,.inr ⟨Nat.le_refl _,hlt⟩,hlt⟩,fun k hk=>.inl hk,hb12.trans (hb3.mono hb12.size)⟩
theorem sift_p {B:Nat} {F0:Nat→Prop} {tb mb N:Nat} {w:World} {gs:List (List Nat)} {S:List Stp} {T:List (List Nat)} {nx:Nat} {es:List En} {sv lv:Value} (hp:Tb N gs S T es) (h:TbM B F0 tb mb N w S nx es es es sv lv) (hn1:1≤N) (hn2:N≤64) {xv:Value} {x:List Nat} (hx:FP F0 w xv x) (gx:Cm.Gd N x) :
  Calls Tryz.prog 65 #[.pointer (some ⟨tb,0,none⟩),xv] w fun ed w'=>∃ (uv rv:Value) (x9 y9:Int),ed=.returned (.tuple #[uv,rv,.agg #[.int .i64 x9,.int .i64 y9],.bool (decide ((Cm.sfP N (Cm.idT N (trE es)) N x).1<N))])∧OwE w.heap.size w' uv (usE es N N x).length ((usE es N N x).map enP)∧Below w.heap.size w w':=by
 refine (sift_t hp h hn1 hn2 hx gx).mono ?_;rintro e w' ⟨F',uv,rv,x9,y9,rfl,h1,h2,h3,h4,h5,h6,h7⟩;exact ⟨uv,rv,x9,y9,rfl,⟨h5⟩,h4⟩
theorem run_sliceE1 (b o m c:Nat) (h:m≤c):∃ ca:Addr,(∀ w:World,(Instr.sliceAt 102 (.slice (some ⟨b,o,none⟩) (m+1) (c+1)) (some (.int .i64 1)) none none).run Tryz.prog w=.ok (.slice (some ca) m c) w)∧(0<m→ca=⟨b,o+1,none⟩):=by
 by_cases e:c=0
 ·refine ⟨⟨b,o,none⟩,fun w=>?_,fun h=>by omega⟩
  obtain rfl:m=0:=by omega
  subst e;simp [Instr.sliceAt,Instr.slice,run_underlying Tryz.underlying102,Instr.sliceBounds,Instr.sliceBound,asIntOf,Addr.add]
 ·refine ⟨⟨b,o+1,none⟩,fun w=>?_,fun _=>rfl⟩
  simp [Instr.sliceAt,Instr.slice,run_underlying Tryz.underlying102,Instr.sliceBounds,Instr.sliceBound,asIntOf,Addr.add,e];intro hh;omega
theorem OwE.split {B:Nat} {W:World} {uv:Value} {n:Nat} {a:Value} {l:List Value} (h:OwE B W uv n (a :: l)):∃ g c ca,uv=.slice (some ⟨g,0,none⟩) (l.length+1) (c+1)∧n=l.length+1∧W.cell? ⟨g,0+0,none⟩=some a∧g<W.heap.size∧B≤g ∧
  (∀ w:World,(Instr.sliceAt 102 (.slice (some ⟨g,0,none⟩) (l.length+1) (c+1)) (some (.int .i64 1)) none none).run Tryz.prog w=.ok (.slice (some ca) l.length c) w)∧∀ M:Nat→Prop,¬ M g→RdV M W (some ca) l:=by
 obtain ⟨h1⟩:=h
 have hn:n=l.length+1:=by have:=h1.1; simp at this; omega
 subst hn;obtain ⟨g,c0,u,e1,e2,e3,e4⟩:=row_of h1 (k:=0) (by omega)
 have hu:u=a:=by
  rw [List.getElem?_cons_zero] at e3;exact (Option.some.inj e3).symm
 have hcap:l.length+1≤c0:=by
  obtain ⟨q1,q2⟩:=h1
  rcases q2 with ⟨q3,_⟩ | ⟨g',cap,cur,q3,_,_,q4,_⟩
  ·rw [q3] at e1; simp at e1
  ·rw [q3] at e1
   simp only [Value.slice.injEq,true_and] at e1;omega
 obtain ⟨c,rfl⟩:∃ c,c0=c+1:=⟨c0 - 1,by omega⟩;obtain ⟨ca,r1,r2⟩:=run_sliceE1 g 0 l.length c (by omega);refine ⟨g,c,ca,e1,rfl,by rw [e2,hu],e4,(World.ownsRow.lt h1 g (by rw [e1]; rfl)).1,r1,fun M hM hl=>?_⟩;refine ⟨g,0+1,by rw [r2 hl],e4,hM,fun i hi=>?_⟩;obtain ⟨g',c',u',f1,f2,f3,f4⟩:=row_of h1 (k:=i+1) (by omega);rw [e1] at f1;simp only [Value.slice.injEq,Option.some.injEq,Addr.mk.injEq,and_true,true_and] at f1;obtain ⟨rfl,_⟩:=f1;rw [show 0+1+i=0+(i+1) by omega,f2,← f3,List.getElem?_cons_succ,List.getElem?_eq_getElem hi]

theorem Dlcl1 (args:Array Value) (w:World):(callFunc 64 args).run Tryz.prog w=.ok (.enter 64 args) w:=by kernel_rfl
theorem Dlcl3 (args:Array Value) (w:World):(callFunc 66 args).run Tryz.prog w=.ok (.enter 66 args) w:=by kernel_rfl
theorem Dlcl4 (args:Array Value) (w:World):(callFunc 67 args).run Tryz.prog w=.ok (.enter 67 args) w:=by kernel_rfl
theorem fold_one {N:Nat} (l:List En) (e:En) (he:Gd N e.x):(e :: l).foldl (fun y (e:En)=>Ma.mulN y e.x) (Ma.oneN N)=l.foldl (fun y (e:En)=>Ma.mulN y e.x) e.x:=by
 rw [List.foldl_cons,Cm.one_mul he]
theorem last_at {T:List (List Nat)} {a:Nat} {x:List Nat} (h:T[a]?=some x) (ha:a+1=T.length):T.getD (T.length - 1) []=x:=by
 have e:T.length - 1=a:=by omega
 rw [e,List.getD_eq_getElem?_getD,h]; rfl
theorem pg_bd {N m s:Nat} (h1:m≤N*N) (h2:s≤m*(2*N+2)):s≤N*N*(2*N+2):=Nat.le_trans h2 (Nat.mul_le_mul_right _ h1)
theorem fcProgram_any (gv xv:Value) (d:Int) (ll:List (List Int)) (xl:List Int) (w:World) (h:Rg.Rows w gv ll) (hx:Rg.Ints w xv xl) :
  Calls Tryz.prog 28 #[.agg #[.int .i64 d,gv],xv] w (PgPost d ll xl w):=by
 obtain ⟨xa,xc,rfl,-⟩:=hx.shape;have HX:=ι (NpI.mk hx);clear hx;obtain ⟨ga,gc,rfl,hga,hba⟩:=GI.enter (d) h;have K:=ι hba;have G0:=ι hga;clear h hga hba;obtain ⟨rk,hrk⟩:∃ c,Hid (rgC d ll xl=c):=⟨_,ι rfl⟩;replace HX:=ι (HX.out.below ((Below.refl _ _).alloc (Nat.le_refl _) (.cells #[.int .i64 d,.slice ga ll.length gc] 24)))
 go_enter Tryz.func28,Tryz.ntmps28
 go_upto_region 0 with (fail);refine Rg.wl ?_;refine Rg.lr 2 (Rg.exec_box _ _ rfl rfl) ?_;go_frame;refine Rg.la 4 (.slice none 0 0) ?_;go_frame;refine Rg.la 5 (.int .i64 0) ?_;go_frame;obtain ⟨gb,hgb⟩:∃ gb,w.heap.size=gb:=⟨_,rfl⟩;rw [hgb] at G0 ⊢;generalize w.alloc (.cells #[.int .i64 d,.slice ga ll.length gc] 24)=w0 at *;clear hgb;go_upto_region 1 with (fail);refine Rg.wl ?_;refine Rg.lr 14 (Rg.exec_load (v:=.agg #[.int .i64 d,.slice ga ll.length gc]) _ _ rfl ⟨gb,0,none⟩ rfl (run_loadG G0.out.c0 G0.out.c1)) ?_;go_frame;refine Rg.lm 15 (.slice xa xl.length xc) ?_;go_frame;refine Rg.lk 16 (exec_fn 61 _ _ _ rfl rfl rfl (Bwcl4 _ _)) ?_;refine (fcRight_any _ _ d ll xl w0 G0.out.rows HX.out.i).mono ?_;rintro e1 w1 ⟨rfl,hb⟩;rw [hrk.out];refine ⟨_,rfl,?_⟩;go_frame;replace G0:=ι (G0.out.below hb);replace HX:=ι (HX.out.below hb);replace K:=ι (Rg.acc K.out hb);clear hb;refine Rg.la 6 (.int .i64 rk) ?_;go_frame
 by_cases h0:rk=0
 case neg =>
  skip
  go_upto_region 2 with (fail);refine Rg.wl ?_;refine Rg.lm 17 (.int .i64 rk) ?_;go_frame;refine Rg.lr 18 (exec_bin (R:=.bool true) .neq _ _ _ rfl rfl rfl (b_neqB _ (decide_eq_true h0))) ?_;go_frame;go_upto_region 3 with (fail);refine Rg.wl ?_;refine Rg.lm 19 (.int .i64 rk) ?_;go_frame;refine Rg.la 4 (.slice none 0 0) ?_;go_frame;refine Rg.la 5 (.int .i64 rk) ?_;go_frame;go_wp2
  go_ret2
  exact ⟨_,[],rk,rfl,.inl ⟨by rw [hrk.out]; exact h0,hrk.out.symm,rfl⟩,StA.nil _,K.out⟩
 case pos =>
  have HZ:=ι (hrk.out.trans h0);go_upto_region 2 with (fail);refine Rg.wl ?_;refine Rg.lm 17 (.int .i64 rk) ?_;go_frame;refine Rg.lr 18 (exec_bin (R:=.bool false) .neq _ _ _ rfl rfl rfl (b_neqB _ (decide_eq_false (fun e=>e h0)))) ?_;go_frame;clear h0
  by_cases hd16:16<d
  case pos =>
   skip
   go_upto_region 4 with (fail);refine Rg.wl ?_;refine Rg.lr 20 (exec_fieldG0 _ rfl rfl) ?_;go_frame;refine Rg.lr 21 (Rg.exec_load (v:=.int .i64 d) _ _ rfl ⟨gb,0,none⟩ rfl (run_loadInt G0.out.c0)) ?_;go_frame;refine Rg.lr 22 (exec_bin (R:=.bool true) .gtr _ _ _ rfl rfl rfl (b_gtr _ Rg.dT)) ?_;go_frame;go_upto_region 5 with (fail);refine Rg.wl ?_;refine Rg.la 4 (.slice none 0 0) ?_;go_frame;refine Rg.la 5 (.int .i64 ((5:Nat):Int)) ?_;go_frame;go_wp2
   go_ret2
   exact ⟨_,[],5,rfl,.inr (.inl ⟨HZ.out,hd16,rfl,rfl⟩),StA.nil _,K.out⟩
  case neg =>
   obtain ⟨hgz,x,N0,hxe,hdN,gx⟩:=rgC_get HZ.out;obtain ⟨N,gs,hN,rfl,hgg,hn1,-,hgl⟩:=gchk_ok hgz
   obtain rfl:N0=N:=by omega
   subst hxe hN;have HGD:=ι (show ∀ s∈gs,Gd N0 s from fun s hs=>hgg s hs);have GX:=ι gx
   have hn2:N0≤16:=by omega
   have HD:=ι (show ((N0:Nat):Int)≤16 by omega);clear hgz hdN gx hgg hd16;go_upto_region 4 with (fail);refine Rg.wl ?_;refine Rg.lr 20 (exec_fieldG0 _ rfl rfl) ?_;go_frame;refine Rg.lr 21 (Rg.exec_load (v:=.int .i64 ((N0:Nat):Int)) _ _ rfl ⟨gb,0,none⟩ rfl (run_loadInt G0.out.c0)) ?_;go_frame;refine Rg.lr 22 (exec_bin (R:=.bool false) .gtr _ _ _ rfl rfl rfl (b_gtr _ Rg.dF)) ?_;go_frame;have FR0:=ι (frows_all G0.out.rows);have FX0:=ι (fp_all (x:=x) HX.out.i);obtain ⟨F1,hTM,hC,hF1,hb1⟩:=tbInit w1 (gs.map Ma.ofN).length N0 104 98;have FR:=ι (FRows.monox (FRows.kfx FR0.out (KF.of_below hb1)) hF1);have FX:=ι ((FP.kf FX0.out (KF.of_below hb1)).mono hF1);have G1:=ι (G0.out.below hb1);have PK:=ι (show PrK w F1 _ from ⟨K.out.trans (hb1.mono K.out.size),fun k hk=>hF1 k (Nat.lt_of_lt_of_le hk K.out.size)⟩);have TM:=ι hTM;have C:=ι hC;clear hTM hC hF1 FR0 FX0 hb1
   go_upto_region 6 with (fail);refine Rg.wl ?_;refine Rg.lr 23 (exec_fieldG _ rfl rfl) ?_;go_frame;refine Rg.lr 24 (Rg.exec_load (v:=.slice ga (gs.map Ma.ofN).length gc) _ _ rfl ⟨gb,1,none⟩ rfl (Rg.run_loadSl _ _ Tryz.underlying22 G0.out.c1)) ?_;go_frame;refine Rg.lr 25 (exec_len _ _ _ rfl Tryz.underlying22 _ _ _ rfl) ?_;go_frame;refine Rg.lr 26 (exec_buildRc _ rfl rfl) ?_;go_frame;refine Rg.lr 27 (exec_fieldG0 _ rfl rfl) ?_;go_frame;refine Rg.lr 28 (Rg.exec_load (v:=.int .i64 ((N0:Nat):Int)) _ _ rfl ⟨gb,0,none⟩ rfl (run_loadInt G0.out.c0)) ?_;go_frame;refine Rg.lr 29 (exec_makeMap _ rfl) ?_;go_frame;refine Rg.lr 30 (exec_buildTb4 _ _ _ rfl rfl rfl rfl) ?_;go_frame;refine Rg.lr 31 (Rg.exec_box _ _ rfl rfl) ?_;go_frame;refine Rg.lr 7 (exec_allocTbp rfl) ?_;go_frame;refine Rg.list_skip none rfl rfl (Rg.exec_store _ _ _ rfl _ rfl _ rfl (run_storeTbp (some ⟨(w1.alloc (.map #[] 0)).heap.size,0,none⟩) (by rw [Rg.cellNew]; rfl) (frozenNewN _ _ _ 0 _))) ?_;go_frame
   obtain ⟨tb,htb⟩:∃ b,b=(w1.alloc (.map #[] 0)).heap.size:=⟨_,rfl⟩;obtain ⟨tp,htp⟩:∃ b,b=((w1.alloc (.map #[] 0)).alloc (.cells #[.slice none 0 0,.int .i64 (((gs.map Ma.ofN).length:Nat):Int),.int .i64 ((N0:Nat):Int),.map (some w1.heap.size),.slice none 0 0] 104)).heap.size:=⟨_,rfl⟩;generalize hW4:(((w1.alloc (.map #[] 0)).alloc (.cells #[.slice none 0 0,.int .i64 (((gs.map Ma.ofN).length:Nat):Int),.int .i64 ((N0:Nat):Int),.map (some w1.heap.size),.slice none 0 0] 104)).alloc (.cells #[.pointer none] 98)).setCell ⟨((w1.alloc (.map #[] 0)).alloc (.cells #[.slice none 0 0,.int .i64 (((gs.map Ma.ofN).length:Nat):Int),.int .i64 ((N0:Nat):Int),.map (some w1.heap.size),.slice none 0 0] 104)).heap.size,0,none⟩ (.pointer (some ⟨(w1.alloc (.map #[] 0)).heap.size,0,none⟩))=W4 at *;clear hW4;rw [← htp,← htb] at C ⊢;rw [← htb,List.length_map] at TM
   obtain ⟨mb,hmb⟩:∃ b,Hid (b=w1.heap.size):=⟨_,ι rfl⟩;obtain ⟨B,hB⟩:∃ b,Hid (b=w1.heap.size):=⟨_,ι rfl⟩;have TM:=ι (show TbM B F1 tb mb N0 W4 [] gs.length [] [] [] (.slice none 0 0) (.slice none 0 0) by rw [hmb.out,hB.out]; exact TM.out);clear htb htp K G0;have FRG:=ι (show Rg.FRows F1 W4 (.slice ga gs.length gc) (gs.map Ma.ofN) by have:=FR.out; rwa [List.length_map] at this);have CG0:=ι (CL.mk G1.out.c0 G1.out.lt);have CG1:=ι (show CL W4 gb 1 (.slice ga gs.length gc) from ⟨by have:=G1.out.c1; rwa [List.length_map] at this,G1.out.lt⟩);clear FR G1;go_upto_region 7 with (fail);refine Rg.wl ?_;refine Rg.lr 32 (Rg.exec_load (v:=.pointer (some ⟨tb,0,none⟩)) _ _ rfl ⟨tp,0,none⟩ rfl (Rg.run_loadPtr _ _ Tryz.underlying98 C.out.cell)) ?_;go_frame;refine Rg.lr 33 (Rg.exec_load (v:=.agg #[.int .i64 ((N0:Nat):Int),.slice ga gs.length gc]) _ _ rfl ⟨gb,0,none⟩ rfl (run_loadG CG0.out.cell CG1.out.cell)) ?_;go_frame
   refine Rg.lk 34 (exec_fn 64 _ _ _ rfl rfl rfl (Dlcl1 _ _)) ?_;refine (fill_t (fun s hs=>HGD.out s hs) TM.out hn1 hn2 (by omega) FRG.out).mono ?_;rintro e1 w62 ⟨F9,sv9,lv9,S9,T9,es9,rfl,htb9,htr9,hbd9,hT9,hg9⟩;have hg9x:=hg9;have nC:=C.out.kg hg9.kg;have nX:=FP.kg FX.out hg9.kg;have TB:=ι htb9;have TR:=ι htr9;have HBD:=ι hbd9;clear htb9 htr9 hbd9;refine ⟨_,rfl,?_⟩;go_frame;replace TM:=ι hT9;replace C:=ι nC;replace FX:=ι nX;replace PK:=ι (PK.out.kg hg9.kg);clear hg9x hT9 nC nX;clear hg9 FRG CG0 CG1;obtain ⟨A,hA⟩:∃ A,Hid (Cm.sfP N0 (Cm.idT N0 (trE es9)) N0 x=A):=⟨_,ι rfl⟩;obtain ⟨U,hU⟩:∃ U,Hid (usE es9 N0 N0 x=U):=⟨_,ι rfl⟩;obtain ⟨fb,hfb⟩:∃ b,Hid (decide (A.1<N0)=b):=⟨_,ι rfl⟩;obtain ⟨ul,hul⟩:∃ n,Hid (U.length=n):=⟨_,ι rfl⟩;have HUL:=ι (show U.length≤N0 by rw [← hU.out]; exact usE_len _ _ _ _);have HUM:=ι (show ∀ e∈U,e∈es9 from fun e he=>by rw [← hU.out] at he; exact usE_mem he)
   have HFEW:=ι TB.out.few
   have HLEN:=ι (show T9.length<50000 by
    have h1:=TB.out.sk.len;have h2:=TB.out.few;have h3:N0*N0≤16*16:=Nat.mul_le_mul hn2 hn2;have h4:es9.length*(2*N0+2)≤256*34:=Nat.mul_le_mul (by omega) (by omega);have h5:=HBD.out
    omega)
   have HMLT:=ι TM.out.Mlt;have TM4:=TM;have C4:=C;have K4:=PK;have BL:=ι (BlF.mk (Below.refl w62.heap.size w62));go_upto_region 8 with (fail);refine Rg.wl ?_;refine Rg.lr 36 (Rg.exec_load (v:=.pointer (some ⟨tb,0,none⟩)) _ _ rfl ⟨tp,0,none⟩ rfl (Rg.run_loadPtr _ _ Tryz.underlying98 C.out.cell)) ?_;go_frame;refine Rg.lm 37 (.slice xa (Ma.ofN x).length xc) ?_;go_frame;refine Rg.lk 38 (exec_fn 65 _ _ _ rfl rfl rfl (Dhcl0 _ _)) ?_;refine (sift_p TB.out TM.out hn1 (by omega) FX.out GX.out).mono ?_;rintro e1 w63 ⟨uv9,rv9,x9,y9,rfl,how9,hb⟩;rw [hU.out] at how9;rw [hul.out] at how9;rw [hA.out,hfb.out];obtain ⟨ua,uc,hus⟩:=Rg.row_shape how9.r;subst hus;refine ⟨_,rfl,?_⟩;go_frame;replace TM:=ι (TM.out.below hb);replace C:=ι (C.out.below hb);replace BL:=ι (BL.out.below hb);clear hb;have UR:=ι how9;refine Rg.lm 35 (.tuple #[.slice ua ul uc,rv9,(.agg #[.int .i64 x9,.int .i64 y9]),.bool fb]) ?_;go_frame
   refine Rg.lr 39 (exec_extract (v:=.slice ua ul uc) _ _ rfl rfl rfl) ?_;go_frame;refine Rg.lr 40 (exec_extract (v:=rv9) _ _ rfl rfl rfl) ?_;go_frame;refine Rg.lr 41 (exec_extract (v:=(.agg #[.int .i64 x9,.int .i64 y9])) _ _ rfl rfl rfl) ?_;go_frame;refine Rg.lr 42 (exec_extract (v:=.bool fb) _ _ rfl rfl rfl) ?_;go_frame;obtain ⟨W2,hst,hpw,hb⟩:=Pw.fresh w63 x9 y9;refine Rg.lr 10 (exec_allocP2 rfl) ?_;go_frame;refine Rg.la 8 (.slice ua ul uc) ?_;go_frame;refine Rg.la 9 (rv9) ?_;go_frame;refine Rg.list_skip none rfl rfl (Rg.exec_store _ _ _ rfl _ rfl _ rfl hst) ?_;go_frame;refine Rg.la 11 (.bool fb) ?_;go_frame;clear hst hpw how9;replace TM:=ι (TM.out.below hb);replace C:=ι (C.out.below hb);replace BL:=ι (BL.out.below hb);replace UR:=ι (UR.out.below hb);clear hb
   cases fb with
   | true =>
    go_upto_region 9 with (fail);refine Rg.wl ?_;refine Rg.lm 43 (.bool true) ?_;go_frame;go_upto_region 10 with (fail);refine Rg.wl ?_;refine Rg.la 4 (.slice none 0 0) ?_;go_frame;refine Rg.la 5 (.int .i64 ((18:Nat):Int)) ?_;go_frame
    have HNO:=ι (show ¬ Gr N0 (·∈gs) x from fun hg=>by
     have h1:=(sfP_grp (Cm.Gr.isG (gs:=(·∈gs)) HGD.out) TR.out GX.out).2 hg;have h2:A.1<N0:=of_decide_eq_true hfb.out;rw [hA.out] at h1
     omega)
    go_wp2
    go_ret2
    exact ⟨_,[],18,rfl,.inr (.inr ⟨HZ.out,HD.out,N0,gs,x,rfl,rfl,rfl,GX.out,HGD.out,.inl ⟨HNO.out,rfl,rfl⟩⟩),StA.nil _,(K4.out.below BL.out.b).b⟩
   | false =>
    have HYES:=ι (show Gr N0 (·∈gs) x from by
     refine (sfP_grp (Cm.Gr.isG (gs:=(·∈gs)) HGD.out) TR.out GX.out).1 ?_;have h2:¬ A.1<N0:=of_decide_eq_false hfb.out;have h3:=(Cm.sfP_all TB.out.ok.rp (Nat.le_refl N0) (by omega) GX.out (fun j hj=>absurd hj (by omega))).1;rw [hA.out] at h3 ⊢
     omega)
    have HPRD:=ι (show x=U.reverse.foldl (fun y e=>Ma.mulN y e.x) (Ma.oneN N0) from by
     rw [← hU.out];refine TB.out.prod GX.out ?_
     exact (sfP_grp (Cm.Gr.isG (gs:=(·∈gs)) HGD.out) TR.out GX.out).2 HYES.out)
    go_upto_region 9 with (fail);refine Rg.wl ?_;refine Rg.lm 43 (.bool false) ?_;go_frame;have UB:=ι BL.out.b;have URB:=UR;clear TM C UR BL;go_upto_region 11 with (fail);refine Rg.wl ?_;refine Rg.lm 44 (.slice ua ul uc) ?_;go_frame;refine Rg.lk 45 (exec_fn1 66 _ _ rfl rfl (Dlcl3 _ _)) ?_;refine (reverseE (w0:=w62) URB.out.r (fun u hu=>by obtain ⟨e,_,rfl⟩:=List.mem_map.1 hu; exact ⟨_,rfl⟩) (by have:=HUL.out; have:=hul.out; omega) UB.out (Nat.le_refl _)).mono ?_;rintro e1 w84 ⟨⟨vv9,rfl⟩,how8,hb⟩;replace K4:=ι (K4.out.below hb);refine ⟨_,rfl,?_⟩;go_frame;replace TM4:=ι (TM4.out.below hb);replace C4:=ι (C4.out.below hb);clear hb;have UR:=ι (OwE.mk how8);clear how8 URB UB
    by_cases hz:ul=0
    case pos =>
     skip
     go_upto_region 12 with (fail);refine Rg.wl ?_;refine Rg.lm 46 (.slice ua ul uc) ?_;go_frame;refine Rg.lr 47 (exec_len _ _ _ rfl Tryz.underlying102 _ _ _ rfl) ?_;go_frame;refine Rg.lr 48 (exec_bin (R:=.bool true) .eql _ _ _ rfl rfl rfl (b_eql _ Rg.dT)) ?_;go_frame;go_upto_region 13 with (fail);refine Rg.wl ?_;refine Rg.la 4 (.slice none 0 0) ?_;go_frame;refine Rg.la 5 (.int .i64 ((0:Nat):Int)) ?_;go_frame
     have HXO:=ι (show x=Ma.oneN N0 from by
      have h1:=HPRD.out;have h2:U=[]:=List.eq_nil_of_length_eq_zero (by rw [hul.out]; exact hz);rw [h2] at h1
      exact h1)
     go_wp2
     go_ret2
     exact ⟨_,[],0,rfl,.inr (.inr ⟨HZ.out,HD.out,N0,gs,x,rfl,rfl,rfl,GX.out,HGD.out,.inr ⟨HYES.out,rfl,Nat.zero_le _,.inl ⟨rfl,HXO.out⟩⟩⟩),StA.nil _,K4.out.b⟩
    case neg =>
     obtain ⟨e0,l,hel⟩:∃ e l,U.reverse=e :: l:=by
      cases hq:U.reverse with
      | nil =>
       have:=congrArg List.length hq;rw [List.length_reverse,hul.out] at this;exact absurd this hz
      | cons e l=>exact ⟨e,l,rfl⟩
     have HEL:=ι hel;replace UR:=ι (show OwE _ _ _ ul (enP e0 :: l.map enP) from by have:=UR.out; rwa [← List.map_reverse,hel] at this);obtain ⟨g,c9,ca,e1,hn9,hcell,hglt,hBg,hsl,hrd⟩:=UR.out.split;rw [List.length_map] at e1 hn9 hsl;subst hn9;simp only [Value.slice.injEq,true_and] at e1;obtain ⟨rfl,rfl⟩:=e1;have HE0:=ι (show e0∈es9 from HUM.out e0 (by rw [← List.mem_reverse,hel]; exact List.mem_cons_self ..))
     have HLM:=ι (show ∀ e∈l,e∈es9∧T9[e.at_]?=some e.x from fun e he=>by
      have h1:=HUM.out e (by rw [← List.mem_reverse,hel]; exact List.mem_cons_of_mem _ he)
      exact ⟨h1,(TB.out.en e h1).at_⟩)
     have HEO:=ι (TB.out.en e0 HE0.out);have HXF:=ι (show l.foldl (fun y (e:En)=>Ma.mulN y e.x) e0.x=x by rw [HPRD.out,hel,fold_one l e0 HEO.out.gd]);have HLL:=ι (show T9.length+l.length<100000∧l.length≤16 by have:=HLEN.out; have:=hul.out; have:=HUL.out; omega);have CP:=ι (CL.mk hcell hglt);have HSL:=ι hsl;have HGN:=ι (show ¬ tbS tb mb es9 sv9 lv9 g from fun h=>by have:=HMLT.out g h; omega);have RP:=ι (hrd _ HGN.out);obtain ⟨bE,hbE⟩:∃ b,Hid (e0.b=b):=⟨_,ι rfl⟩;obtain ⟨kE,hkE⟩:∃ b,Hid (e0.at_=b):=⟨_,ι rfl⟩
     have HCE:=ι (fun (F:Nat→Prop) (W:World) (S:List Stp) (nx:Nat) (sv:Value) (h:TbM B F tb mb N0 W S nx es9 es9 es9 sv lv9)=>show W.cell? ⟨bE,2,none⟩=some (.int .i64 ((kE:Nat):Int)) from by
      obtain ⟨_,_,q⟩:=h.en e0 HE0.out
      rw [← hbE.out,← hkE.out]; exact q.c2.c)
     have HZ1:=ι (show T9[kE]?=some e0.x by rw [← hkE.out]; exact HEO.out.at_);have HPE:=ι (show enP e0=.pointer (some ⟨bE,0,none⟩) by rw [← hbE.out]);rw [HPE.out] at CP;clear hcell hglt hBg hsl hrd hel hz UR;go_upto_region 12 with (fail);refine Rg.wl ?_;refine Rg.lm 46 (.slice (some ⟨g,0,none⟩) (l.length+1) (c9+1)) ?_;go_frame;refine Rg.lr 47 (exec_len _ _ _ rfl Tryz.underlying102 _ _ _ rfl) ?_;go_frame;refine Rg.lr 48 (exec_bin (R:=.bool false) .eql _ _ _ rfl rfl rfl (b_eql _ Rg.dF)) ?_;go_frame;have HCP:=ι ((show Below w84.heap.size w84 w84.drew from (Below.refl _ _).drew).cell (p:=⟨g,0+0,none⟩) CP.out.lt);have HGL:=ι (Nat.lt_of_lt_of_le CP.out.lt (show Below w84.heap.size w84 w84.drew from (Below.refl _ _).drew).size);go_upto_region 14 with (fail);have hV0:Below w84.heap.size w84 w84.drew:=(Below.refl _ _).drew;replace TM4:=ι (TM4.out.up hV0);replace C4:=ι (C4.out.up hV0)
     replace RP:=ι (RP.out.up hV0);replace K4:=ι (K4.out.up hV0);generalize Fup F9 w84 w84.drew=F1 at *;clear hV0;refine Rg.Any.begin (S:=Rg.Both 10 (fun W:World=>W.cell? ⟨g,0+0,none⟩=some (.pointer (some ⟨bE,0,none⟩))∧W.cell? ⟨bE,2,none⟩=some (.int .i64 ((kE:Nat):Int))) (fun _=>True)) mix ?_;generalize w84.drew=w105 at *;have hS:∀ (l:Array Bool) W,(fun W:World=>W.cell? ⟨g,0+0,none⟩=some (.pointer (some ⟨bE,0,none⟩))∧W.cell? ⟨bE,2,none⟩=some (.int .i64 ((kE:Nat):Int))) W→Rg.Both 10 (fun W:World=>W.cell? ⟨g,0+0,none⟩=some (.pointer (some ⟨bE,0,none⟩))∧W.cell? ⟨bE,2,none⟩=some (.int .i64 ((kE:Nat):Int))) (fun _=>True) l W:=fun l W h=>⟨.inr h,trivial⟩;have hS2:∀ (l:Array Bool) W,l.getD 10 false=true→Rg.Both 10 (fun W:World=>W.cell? ⟨g,0+0,none⟩=some (.pointer (some ⟨bE,0,none⟩))∧W.cell? ⟨bE,2,none⟩=some (.int .i64 ((kE:Nat):Int))) (fun _=>True) l W:=fun l W h=>⟨.inl h,trivial⟩
     have hI:(fun W:World=>W.cell? ⟨g,0+0,none⟩=some (.pointer (some ⟨bE,0,none⟩))∧W.cell? ⟨bE,2,none⟩=some (.int .i64 ((kE:Nat):Int))) w105:=⟨HCP.out.trans CP.out.cell,HCE.out _ _ _ _ _ TM4.out⟩;refine Rg.tm 0 10 (.slice (some ⟨g,0,none⟩) (l.length+1) (c9+1)) 49 (hS _ _ hI) ?_;go_frame;refine Rg.tg 1 10 ((.slice (some ca) l.length c9)) 50 rfl rfl (.inl ⟨rfl,fun w _=>exec_slice1E (v:=.slice (some ⟨g,0,none⟩) (l.length+1) (c9+1)) _ rfl rfl (HSL.out _)⟩) (hS _ _ hI) ?_;go_frame;refine Rg.tm 2 10 (.slice (some ⟨g,0,none⟩) (l.length+1) (c9+1)) 51 (hS _ _ hI) ?_;go_frame;refine Rg.tg 3 10 (.pointer (some ⟨g,0+0,none⟩)) 52 rfl rfl (Rg.yields_index slEnts _ _ rfl rfl g (0) ((l.length+1)) (c9+1) (0) rfl rfl (by omega)) (hS _ _ hI) ?_;go_frame;refine Rg.Any.takeT (i:=4) (t:=10) (v:=.pointer (some ⟨bE,0,none⟩)) (some 53) rfl rfl (by kernel_rfl) (by kernel_rfl) (by kernel_rfl) (fun _ _ _ h=>h) rfl (by kernel_rfl) rfl (Rg.yields_cell _ _ rfl rfl ⟨g,0+0,none⟩ rfl (fun W hW=>Rg.run_loadPtr _ _ Tryz.underlying110 hW.1)) (hS _ _ hI) ?_;go_frame
     refine Rg.tg 5 10 (.pointer (some ⟨bE,0,none⟩)) 54 rfl rfl (.inl ⟨rfl,fun w _=>exec_nil _ rfl rfl⟩) (hS _ _ hI) ?_;go_frame;refine Rg.tg 6 10 (.pointer (some ⟨bE,2,none⟩)) 55 rfl rfl (.inl ⟨rfl,fun w _=>exec_field _ rfl rfl (enF2 _ _)⟩) (hS _ _ hI) ?_;go_frame;refine Rg.Any.takeT (i:=7) (t:=10) (v:=.int .i64 ((kE:Nat):Int)) (some 56) rfl rfl (by kernel_rfl) (by kernel_rfl) (by kernel_rfl) (fun _ _ _ h=>h) rfl (by kernel_rfl) rfl (Rg.yields_cell _ _ rfl rfl ⟨bE,2,none⟩ rfl (fun W hW=>run_loadInt hW.2)) (hS _ _ hI) ?_;go_frame;refine Rg.tg 8 10 ((.func (.func 68) #[] #[.pointer (some ⟨tp,0,none⟩)])) 57 rfl rfl (.inl ⟨rfl,fun w _=>exec_makeFunc 68 _ rfl rfl⟩) (hS _ _ hI) ?_;go_frame;refine Rg.Any.one (i:=9) (by kernel_rfl) (Rg.Any.ask (some 58) rfl rfl rfl _ _ (exec_fn3 67 _ _ _ _ rfl rfl rfl rfl (Dlcl4 _ _)) ?_);refine (foldTE_any (y0:=e0.x) TB.out.sk TM4.out C4.out HLM.out HZ1.out RP.out HLL.out.1).mono ?_
     rintro e1 w106 ⟨F8,sv8,S8,T8,a8,rfl,ha8,hpre8,hsl8,hmk8,hae8,hT8,hg8⟩;rw [HXF.out] at ha8;have hg8x:=hg8;have nC:=C4.out.kg hg8.kg;have HK8:=(show (fun W:World=>W.cell? ⟨g,0+0,none⟩=some (.pointer (some ⟨bE,0,none⟩))∧W.cell? ⟨bE,2,none⟩=some (.int .i64 ((kE:Nat):Int))) w106 from ⟨(World.cell?_of_block (a:=⟨g,0+0,none⟩) (hg8.kp.block g HGL.out HGN.out)).trans (HCP.out.trans CP.out.cell),HCE.out _ _ _ _ _ hT8⟩);have hI2_k:=HK8;clear hI;refine ⟨_,rfl,(hS _ _ hI2_k),?_⟩;go_frame;clear RP;replace TM4:=ι hT8;replace C4:=ι nC;replace K4:=ι (K4.out.kg hg8.kg);clear hg8x hT8 nC;refine Rg.Any.one (i:=10) (by kernel_rfl) (Rg.Any.run (some 12) rfl rfl rfl (Rg.xa (.int .i64 ((a8:Nat):Int)) _ rfl rfl) (hS2 _ _ rfl) ?_);go_frame;refine Rg.Any.done (by kernel_rfl) ?_ _;clear hS2;clear hS hI2_k;have MK8:=ι hmk8;have HA8:=ι ha8;have HSL8:=ι hsl8
     have HAE8:=ι hae8;have HTL8:=ι (show T8.length<60000∧S8.length<60000 by have h1:=MK8.out.len; have h2:=TB.out.sk.len; have h3:=HLEN.out; have h4:=HLL.out; omega)
     have HBD8:=ι (show S8.length≤N0*N0*(2*N0+2)+N0 by
      have h1:=pg_bd HFEW.out HBD.out;have h2:=hul.out;have h3:=HUL.out
      omega)
     clear hmk8 ha8 hsl8 hae8 hpre8 hg8 HCP CP;have ht8:=HTL8.out.1
     by_cases hlast:a8+1=T8.length∧l.length≠0
     case pos =>
      obtain ⟨hl1,hl2⟩:=hlast;go_upto_region 15 with (fail);refine Rg.wl ?_;refine Rg.lm 59 (.int .i64 ((a8:Nat):Int)) ?_;go_frame;refine Rg.lr 60 (Rg.exec_load (v:=.pointer (some ⟨tb,0,none⟩)) _ _ rfl ⟨tp,0,none⟩ rfl (Rg.run_loadPtr _ _ Tryz.underlying98 C4.out.cell)) ?_;go_frame;refine Rg.lr 61 (exec_nil _ rfl rfl) ?_;go_frame;refine Rg.lr 62 (exec_field _ rfl rfl (tblF0 _ _)) ?_;go_frame;refine Rg.lr 63 (exec_field _ rfl rfl (recF1 _ _)) ?_;go_frame;refine Rg.lr 64 (Rg.exec_load (v:=.int .i64 ((T8.length:Nat):Int)) _ _ rfl ⟨tb,1,none⟩ rfl (run_loadInt TM4.out.h1.c)) ?_;go_frame;refine Rg.lr 65 (exec_bin (R:=.int .i64 (((T8.length:Nat):Int) - 1)) .sub _ _ _ rfl rfl rfl (b_sub _ (by omega) (by omega))) ?_;go_frame;refine Rg.lr 66 (exec_bin (R:=.bool false) .lss _ _ _ rfl rfl rfl (b_lss _ Rg.dF)) ?_;go_frame;refine Rg.lm 67 (.bool false) ?_;go_frame;refine Rg.lW 68 (Rg.xm (.slice (some ⟨g,0,none⟩) (l.length+1) (c9+1)) _ rfl rfl) ?_;go_frame
      refine Rg.lW 69 (exec_len _ _ _ rfl Tryz.underlying102 _ _ _ rfl) ?_;go_frame;refine Rg.lW 70 (exec_bin (R:=.bool false) .eql _ _ _ rfl rfl rfl (b_eql _ Rg.dF)) ?_;go_frame;refine Rg.lr 71 (exec_pickF (v:=.bool false) _ _ _ rfl rfl rfl) ?_;go_frame;go_upto_region 18 with (fail);refine Rg.wl ?_;refine Rg.lr 84 (Rg.exec_load (v:=.pointer (some ⟨tb,0,none⟩)) _ _ rfl ⟨tp,0,none⟩ rfl (Rg.run_loadPtr _ _ Tryz.underlying98 C4.out.cell)) ?_;go_frame;refine Rg.lr 85 (exec_nil _ rfl rfl) ?_;go_frame;refine Rg.lr 86 (exec_field _ rfl rfl (tblF0 _ _)) ?_;go_frame;refine Rg.lr 87 (exec_field _ rfl rfl (recF0 _ _)) ?_;go_frame;refine Rg.lr 88 (Rg.exec_load (v:=sv8) _ _ rfl ⟨tb,0,none⟩ rfl (Rg.run_loadSl _ _ Tryz.underlying36 TM4.out.h0.c)) ?_;go_frame;refine Rg.la 4 (sv8) ?_;go_frame;refine Rg.la 5 (.int .i64 ((0:Nat):Int)) ?_;go_frame;have HFL:=ι (last_at HA8.out hl1);have HNE:=ι (show S8≠[] from fun e=>by have h1:=HSL8.out; rw [e] at h1; simp at h1; omega)
      go_wp2
      go_ret2
      exact ⟨_,S8,0,rfl,.inr (.inr ⟨HZ.out,HD.out,N0,gs,x,rfl,rfl,rfl,GX.out,HGD.out,.inr ⟨HYES.out,rfl,by have:=HBD8.out; omega,.inr ⟨HNE.out,T8,MK8.out.run,HFL.out⟩⟩⟩),TM4.out.st.sta,K4.out.b⟩
     case neg =>
      have HA8L:=ι (List.getElem?_eq_some_iff.1 HA8.out).1;have ha8l:=HA8L.out
      by_cases hlt:a8+1<T8.length
      case pos =>
       clear hlast;go_upto_region 15 with (fail);refine Rg.wl ?_;refine Rg.lm 59 (.int .i64 ((a8:Nat):Int)) ?_;go_frame;refine Rg.lr 60 (Rg.exec_load (v:=.pointer (some ⟨tb,0,none⟩)) _ _ rfl ⟨tp,0,none⟩ rfl (Rg.run_loadPtr _ _ Tryz.underlying98 C4.out.cell)) ?_;go_frame;refine Rg.lr 61 (exec_nil _ rfl rfl) ?_;go_frame;refine Rg.lr 62 (exec_field _ rfl rfl (tblF0 _ _)) ?_;go_frame;refine Rg.lr 63 (exec_field _ rfl rfl (recF1 _ _)) ?_;go_frame;refine Rg.lr 64 (Rg.exec_load (v:=.int .i64 ((T8.length:Nat):Int)) _ _ rfl ⟨tb,1,none⟩ rfl (run_loadInt TM4.out.h1.c)) ?_;go_frame;refine Rg.lr 65 (exec_bin (R:=.int .i64 (((T8.length:Nat):Int) - 1)) .sub _ _ _ rfl rfl rfl (b_sub _ (by omega) (by omega))) ?_;go_frame;refine Rg.lr 66 (exec_bin (R:=.bool true) .lss _ _ _ rfl rfl rfl (b_lss _ Rg.dT)) ?_;go_frame;refine Rg.lm 67 (.bool true) ?_;go_frame;refine listW_pass (some 68) (by kernel_rfl) rfl ?_;go_frame
       refine listW_pass (some 69) (by kernel_rfl) rfl ?_;go_frame;refine listW_pass (some 70) (by kernel_rfl) rfl ?_;go_frame;refine Rg.lr 71 (exec_pickT (v:=.bool true) _ _ _ rfl rfl rfl) ?_;go_frame;clear hlt;go_upto_region 16 with (fail);refine Rg.wl ?_;refine Rg.lr 72 (Rg.exec_load (v:=.pointer (some ⟨tb,0,none⟩)) _ _ rfl ⟨tp,0,none⟩ rfl (Rg.run_loadPtr _ _ Tryz.underlying98 C4.out.cell)) ?_;go_frame;refine Rg.lr 73 (exec_nil _ rfl rfl) ?_;go_frame;refine Rg.lr 74 (exec_field _ rfl rfl (tblF0 _ _)) ?_;go_frame;refine Rg.lm 75 (.int .i64 ((a8:Nat):Int)) ?_;go_frame;refine Rg.lr 76 (exec_buildSi _ _ rfl rfl rfl) ?_;go_frame;refine Rg.lk 77 (exec_fn 69 _ _ _ rfl rfl rfl (Decl0 _ _)) ?_;refine (record_any TM4.out 2 ((a8:Nat):Int) 0 (by have:=HTL8.out; omega) (by have:=HTL8.out; omega)).mono ?_;rintro e1 w127 ⟨F7,sv7,rfl,hT7,hg7⟩;have hg7x:=hg7;have nC:=C4.out.kg hg7.kg
       refine ⟨_,rfl,?_⟩;go_frame;replace TM4:=ι hT7;replace C4:=ι nC;replace K4:=ι (K4.out.kg hg7.kg);clear hg7x hT7 nC;refine Rg.la 13 (.int .i64 ((T8.length:Nat):Int)) ?_;go_frame;have MK7:=ι (MK8.out.inv HA8.out);clear hg7;go_upto_region 17 with (fail);refine Rg.wl ?_;refine Rg.lr 78 (Rg.exec_load (v:=.pointer (some ⟨tb,0,none⟩)) _ _ rfl ⟨tp,0,none⟩ rfl (Rg.run_loadPtr _ _ Tryz.underlying98 C4.out.cell)) ?_;go_frame;refine Rg.lr 79 (exec_nil _ rfl rfl) ?_;go_frame;refine Rg.lr 80 (exec_field _ rfl rfl (tblF0 _ _)) ?_;go_frame;refine Rg.lm 81 (.int .i64 ((T8.length:Nat):Int)) ?_;go_frame;refine Rg.lr 82 (exec_buildSi _ _ rfl rfl rfl) ?_;go_frame;refine Rg.lk 83 (exec_fn 69 _ _ _ rfl rfl rfl (Decl0 _ _)) ?_;refine (record_any TM4.out 2 ((T8.length:Nat):Int) 0 (by rw [List.length_append]; have:=HTL8.out; simp; omega) (by have:=HTL8.out; omega)).mono ?_;rintro e1 w128 ⟨F6,sv6,rfl,hT6,hg6⟩
       have hg6x:=hg6;have nC:=C4.out.kg hg6.kg;refine ⟨_,rfl,?_⟩;go_frame;replace TM4:=ι hT6;replace C4:=ι nC;replace K4:=ι (K4.out.kg hg6.kg);clear hg6x hT6 nC;have MK6:=ι (MK7.out.inv (at_last (T:=T8) (Ma.invN x)));clear hg6;rw [inv_twice GX.out] at MK6
       have HFL:=ι (last_at (T:=T8++[Ma.invN x]++[x]) (a:=T8.length+1) (x:=x) (by
        have h1:=at_last (T:=T8++[Ma.invN x]) x
        rwa [List.length_append,List.length_singleton] at h1) (by simp))
       go_upto_region 18 with (fail);refine Rg.wl ?_;refine Rg.lr 84 (Rg.exec_load (v:=.pointer (some ⟨tb,0,none⟩)) _ _ rfl ⟨tp,0,none⟩ rfl (Rg.run_loadPtr _ _ Tryz.underlying98 C4.out.cell)) ?_;go_frame;refine Rg.lr 85 (exec_nil _ rfl rfl) ?_;go_frame;refine Rg.lr 86 (exec_field _ rfl rfl (tblF0 _ _)) ?_;go_frame;refine Rg.lr 87 (exec_field _ rfl rfl (recF0 _ _)) ?_;go_frame;refine Rg.lr 88 (Rg.exec_load (v:=sv6) _ _ rfl ⟨tb,0,none⟩ rfl (Rg.run_loadSl _ _ Tryz.underlying36 TM4.out.h0.c)) ?_;go_frame;refine Rg.la 4 (sv6) ?_;go_frame;refine Rg.la 5 (.int .i64 ((0:Nat):Int)) ?_;go_frame;go_wp2
       go_ret2
       exact ⟨_,_,0,rfl,.inr (.inr ⟨HZ.out,HD.out,N0,gs,x,rfl,rfl,rfl,GX.out,HGD.out,.inr ⟨HYES.out,rfl,by rw [List.length_append,List.length_append]; have:=HBD8.out; simp; omega,.inr ⟨by simp,_,MK6.out.run,HFL.out⟩⟩⟩),TM4.out.st.sta,K4.out.b⟩
      case neg =>
       have hl0:l.length=0:=by
        have h1:a8+1=T8.length:=by omega
        have h2:¬ l.length≠0:=fun h=>hlast ⟨h1,h⟩;omega
       clear hlast;go_upto_region 15 with (fail);refine Rg.wl ?_;refine Rg.lm 59 (.int .i64 ((a8:Nat):Int)) ?_;go_frame;refine Rg.lr 60 (Rg.exec_load (v:=.pointer (some ⟨tb,0,none⟩)) _ _ rfl ⟨tp,0,none⟩ rfl (Rg.run_loadPtr _ _ Tryz.underlying98 C4.out.cell)) ?_;go_frame;refine Rg.lr 61 (exec_nil _ rfl rfl) ?_;go_frame;refine Rg.lr 62 (exec_field _ rfl rfl (tblF0 _ _)) ?_;go_frame;refine Rg.lr 63 (exec_field _ rfl rfl (recF1 _ _)) ?_;go_frame;refine Rg.lr 64 (Rg.exec_load (v:=.int .i64 ((T8.length:Nat):Int)) _ _ rfl ⟨tb,1,none⟩ rfl (run_loadInt TM4.out.h1.c)) ?_;go_frame;refine Rg.lr 65 (exec_bin (R:=.int .i64 (((T8.length:Nat):Int) - 1)) .sub _ _ _ rfl rfl rfl (b_sub _ (by omega) (by omega))) ?_;go_frame;refine Rg.lr 66 (exec_bin (R:=.bool false) .lss _ _ _ rfl rfl rfl (b_lss _ Rg.dF)) ?_;go_frame;refine Rg.lm 67 (.bool false) ?_;go_frame;refine Rg.lW 68 (Rg.xm (.slice (some ⟨g,0,none⟩) (l.length+1) (c9+1)) _ rfl rfl) ?_;go_frame
       refine Rg.lW 69 (exec_len _ _ _ rfl Tryz.underlying102 _ _ _ rfl) ?_;go_frame;refine Rg.lW 70 (exec_bin (R:=.bool true) .eql _ _ _ rfl rfl rfl (b_eql _ Rg.dT)) ?_;go_frame;refine Rg.lr 71 (exec_pickF (v:=.bool true) _ _ _ rfl rfl rfl) ?_;go_frame;clear hlt;go_upto_region 16 with (fail);refine Rg.wl ?_;refine Rg.lr 72 (Rg.exec_load (v:=.pointer (some ⟨tb,0,none⟩)) _ _ rfl ⟨tp,0,none⟩ rfl (Rg.run_loadPtr _ _ Tryz.underlying98 C4.out.cell)) ?_;go_frame;refine Rg.lr 73 (exec_nil _ rfl rfl) ?_;go_frame;refine Rg.lr 74 (exec_field _ rfl rfl (tblF0 _ _)) ?_;go_frame;refine Rg.lm 75 (.int .i64 ((a8:Nat):Int)) ?_;go_frame;refine Rg.lr 76 (exec_buildSi _ _ rfl rfl rfl) ?_;go_frame;refine Rg.lk 77 (exec_fn 69 _ _ _ rfl rfl rfl (Decl0 _ _)) ?_;refine (record_any TM4.out 2 ((a8:Nat):Int) 0 (by have:=HTL8.out; omega) (by have:=HTL8.out; omega)).mono ?_;rintro e1 w147 ⟨F7,sv7,rfl,hT7,hg7⟩
       have hg7x:=hg7;have nC:=C4.out.kg hg7.kg;refine ⟨_,rfl,?_⟩;go_frame;replace TM4:=ι hT7;replace C4:=ι nC;replace K4:=ι (K4.out.kg hg7.kg);clear hg7x hT7 nC;refine Rg.la 13 (.int .i64 ((T8.length:Nat):Int)) ?_;go_frame;have MK7:=ι (MK8.out.inv HA8.out);clear hg7;go_upto_region 17 with (fail);refine Rg.wl ?_;refine Rg.lr 78 (Rg.exec_load (v:=.pointer (some ⟨tb,0,none⟩)) _ _ rfl ⟨tp,0,none⟩ rfl (Rg.run_loadPtr _ _ Tryz.underlying98 C4.out.cell)) ?_;go_frame;refine Rg.lr 79 (exec_nil _ rfl rfl) ?_;go_frame;refine Rg.lr 80 (exec_field _ rfl rfl (tblF0 _ _)) ?_;go_frame;refine Rg.lm 81 (.int .i64 ((T8.length:Nat):Int)) ?_;go_frame;refine Rg.lr 82 (exec_buildSi _ _ rfl rfl rfl) ?_;go_frame;refine Rg.lk 83 (exec_fn 69 _ _ _ rfl rfl rfl (Decl0 _ _)) ?_;refine (record_any TM4.out 2 ((T8.length:Nat):Int) 0 (by rw [List.length_append]; have:=HTL8.out; simp; omega) (by have:=HTL8.out; omega)).mono ?_
       rintro e1 w148 ⟨F6,sv6,rfl,hT6,hg6⟩;have hg6x:=hg6;have nC:=C4.out.kg hg6.kg;refine ⟨_,rfl,?_⟩;go_frame;replace TM4:=ι hT6;replace C4:=ι nC;replace K4:=ι (K4.out.kg hg6.kg);clear hg6x hT6 nC;have MK6:=ι (MK7.out.inv (at_last (T:=T8) (Ma.invN x)));clear hg6;rw [inv_twice GX.out] at MK6
       have HFL:=ι (last_at (T:=T8++[Ma.invN x]++[x]) (a:=T8.length+1) (x:=x) (by
        have h1:=at_last (T:=T8++[Ma.invN x]) x
        rwa [List.length_append,List.length_singleton] at h1) (by simp))
       go_upto_region 18 with (fail);refine Rg.wl ?_;refine Rg.lr 84 (Rg.exec_load (v:=.pointer (some ⟨tb,0,none⟩)) _ _ rfl ⟨tp,0,none⟩ rfl (Rg.run_loadPtr _ _ Tryz.underlying98 C4.out.cell)) ?_;go_frame;refine Rg.lr 85 (exec_nil _ rfl rfl) ?_;go_frame;refine Rg.lr 86 (exec_field _ rfl rfl (tblF0 _ _)) ?_;go_frame;refine Rg.lr 87 (exec_field _ rfl rfl (recF0 _ _)) ?_;go_frame;refine Rg.lr 88 (Rg.exec_load (v:=sv6) _ _ rfl ⟨tb,0,none⟩ rfl (Rg.run_loadSl _ _ Tryz.underlying36 TM4.out.h0.c)) ?_;go_frame;refine Rg.la 4 (sv6) ?_;go_frame;refine Rg.la 5 (.int .i64 ((0:Nat):Int)) ?_;go_frame;go_wp2
       go_ret2
       exact ⟨_,_,0,rfl,.inr (.inr ⟨HZ.out,HD.out,N0,gs,x,rfl,rfl,rfl,GX.out,HGD.out,.inr ⟨HYES.out,rfl,by rw [List.length_append,List.length_append]; have:=HBD8.out; simp; omega,.inr ⟨by simp,_,MK6.out.run,HFL.out⟩⟩⟩),TM4.out.st.sta,K4.out.b⟩
end Go.Proofs.YtdnmmibchbceeaaGreat

namespace Go.Proofs.YtdnmmibchbceeaaGreat
open Go.RowKit
open Go.Proofs
open Go.Proofs.Ob
open Go.Proofs.Cm (Gd Gr IsChain ap)
def Mono (l:List (List Int)):Prop:=l.Pairwise fun a b=>a.length≤b.length
theorem fold_mono {x:List Nat} {wd:List Int}:∀ (l:List (List Nat × Int)) (st:BSt),Mono st.2→(∀ u∈st.2,u.length≤wd.length+1)→Mono (l.foldl (bfStep x wd) st).2∧∀ u∈(l.foldl (bfStep x wd) st).2,u.length≤wd.length+1
 | [],st,h1,h2=>⟨h1,h2⟩
 | y :: l,st,h1,h2=>by
  have key:Mono (bfStep x wd st y).2∧∀ u∈(bfStep x wd st y).2,u.length≤wd.length+1:=by
   unfold bfStep
   split
   ·exact ⟨h1,h2⟩
   ·refine ⟨List.pairwise_append.2 ⟨h1,by simp,fun a ha b hb=>?_⟩,fun u hu=>?_⟩
    ·rw [List.mem_singleton] at hb; subst hb
     have:=h2 a ha
     simpa using this
    ·rcases List.mem_append.1 hu with hu | hu
     ·exact h2 u hu
     ·rw [List.mem_singleton] at hu; subst hu; simp
  exact fold_mono l _ key.1 key.2
theorem bfs_mono {N:Nat} {ml:List (List Nat × Int)} (hm:∀ y∈ml,Gd N y.1):∀ i,Mono (bfs ml N i).2∧∀ w,(bfs ml N i).2[i]?=some w→∀ u∈(bfs ml N i).2,u.length≤w.length+1
 | 0=>⟨List.pairwise_singleton _ _,fun w _ u hu=>by
  have hu:u∈([[]]:List (List Int)):=hu;rw [List.mem_singleton] at hu
  rw [hu]; exact Nat.zero_le _⟩
 | i+1=>by
  obtain ⟨ih1,ih2⟩:=bfs_mono hm i;have hb:=bfs_BI (N:=N) hm i
  by_cases h:i<(bfs ml N i).1.length
  ·have e3:bfs ml N (i+1)=bfRow ml (bfs ml N i) i:=by
    show (if i<(bfs ml N i).1.length then bfRow ml (bfs ml N i) i else bfs ml N i)=_;rw [if_pos h]
   have h2:i<(bfs ml N i).2.length:=by rw [hb.ln]; exact h
   have e4:(bfs ml N i).2.getD i []=(bfs ml N i).2[i]:=by rw [List.getD_eq_getElem?_getD,List.getElem?_eq_getElem h2]; rfl
   have hf:=fold_mono (x:=(bfs ml N i).1.getD i []) (wd:=(bfs ml N i).2.getD i []) ml (bfs ml N i) ih1 (by rw [e4]; exact ih2 _ (List.getElem?_eq_getElem h2));obtain ⟨t,ht⟩:=(bfs_step_ext ml N i).2;rw [e3] at ht ⊢;refine ⟨hf.1,fun w hw u hu=>?_⟩;have h5:=hf.2 u hu;rw [e4] at h5;have hi1:i+1<(bfRow ml (bfs ml N i) i).2.length:=(List.getElem?_eq_some_iff.1 hw).1
   have h6:(bfRow ml (bfs ml N i) i).2[i]'(by omega)=(bfs ml N i).2[i]:=by
    have h7:(bfRow ml (bfs ml N i) i).2[i]?=some (bfs ml N i).2[i]:=by rw [← ht,List.getElem?_append_left h2,List.getElem?_eq_getElem h2]
    rw [List.getElem?_eq_getElem (by omega)] at h7;exact Option.some.inj h7
   have h8:=List.pairwise_iff_getElem.1 hf.1 i (i+1) (by show i<(bfRow ml (bfs ml N i) i).2.length; omega) hi1 (by omega);have h9:(bfRow ml (bfs ml N i) i).2[i+1]=w:=(List.getElem?_eq_some_iff.1 hw).2
   have h10:((bfs ml N i).2[i]).length≤w.length:=by
    rw [← h6,← h9]; exact h8
   omega
  ·have e3:bfs ml N (i+1)=bfs ml N i:=by
    show (if i<(bfs ml N i).1.length then bfRow ml (bfs ml N i) i else bfs ml N i)=_;rw [if_neg h]
   rw [e3];refine ⟨ih1,fun w hw=>?_⟩;have:=(List.getElem?_eq_some_iff.1 hw).1;rw [hb.ln] at this;omega
theorem BfE.last {N:Nat} {gs:List (List Nat)} (hg:∀ s∈gs,Gd N s) {st:BSt} (h:BfE (mlets gs) N st) {w:List Int} (hw:st.2[st.2.length - 1]?=some w):∀ u∈st.2,u.length≤w.length:=fun u hu=>by
 obtain ⟨i,rfl,_⟩:=h;have hm:=(bfs_mono (mlets_gd hg) i).1;obtain ⟨j,hj,e⟩:=List.getElem_of_mem hu;obtain ⟨h1,h2⟩:=List.getElem?_eq_some_iff.1 hw
 by_cases q:j=(bfs (mlets gs) N i).2.length - 1
 ·subst q
  rw [← e,← h2]; exact Nat.le_refl _
 ·have:=List.pairwise_iff_getElem.1 hm j _ hj h1 (by omega)
  rw [← e,← h2]; exact this
end Go.Proofs.YtdnmmibchbceeaaGreat

namespace Go.Proofs.YtdnmmibchbceeaaGreat
open Go.RowKit
open Go.Proofs
open Go.Proofs.Ob
open Go.Proofs.Cm (Gd Gr IsChain ap)
attribute [local irreducible] Go.Calls Go.wpList
theorem clGr1 (args:Array Value) (w:World):(callFunc 60 args).run Tryz.prog w=.ok (.enter 60 args) w:=by kernel_rfl
def Gr1P (g n cap:Nat) (f:Nat→Int) (j:Nat) (w:World) (ed:Ending) (w':World):Prop:=ed=.returned (.slice (some ⟨g,0,none⟩) n cap)∧RwAt w' g n (fun i=>if i=j then f j+1 else f i)∧∀ (B':Nat) (W0:World),B'≤g→B'≤w.heap.size→Below B' W0 w→Below B' W0 w'
theorem growth1_any {B N mb bx g n cap:Nat} {st:BSt} {vs:List Value} {f:Nat→Int} {xv:Value} {x:List Nat} {w:World} (h:RwAt w g n f) (hq:WqM B w mb st vs) (hbi:BI N st) (hN1:1≤N) (hN:N≤64) (hc:CL w bx 0 (.map (some mb))) (hx:Rg.NP w xv x) (hm:x∈st.1) (hj:(wdOf st x).length<n) (hf:-1≤f (wdOf st x).length∧f (wdOf st x).length≤100000) :
  Calls Tryz.prog 60 #[.slice (some ⟨g,0,none⟩) n cap,xv,.pointer (some ⟨bx,0,none⟩)] w (Gr1P g n cap f (wdOf st x).length w):=by
 have RW:=ι h;have HQ:=ι hq;have CB:=ι hc;have NX:=ι (NpI.mk hx);have GX:=ι (hbi.gd x hm);obtain ⟨wv,hlk,hfi⟩:=hq.get hbi hN hm;have HLK:=ι hlk;obtain ⟨wa,wc,hws,-⟩:=hfi.ints.shape;subst hws;clear h hq hbi hc hx hlk hfi hm;generalize (wdOf st x).length=j at *;have HJ:=ι hj
 go_enter Tryz.func60,Tryz.ntmps60
 go_upto_region 0 with (fail);refine Rg.wl ?_;refine Rg.la 5 (.slice none 0 0) ?_;go_frame;have hV1:Below w.heap.size w w.drew:=(Below.refl _ _).drew;replace RW:=ι (RW.out.below hV1);replace HQ:=ι (HQ.out.below hV1);replace CB:=ι (CB.out.below hV1);replace NX:=ι (NX.out.below hV1);have HSV:=ι hV1.size;have KD:=ι (fun (B':Nat) (W0:World) (hb:Below B' W0 w)=>hb.drew);have CJ:=ι (CL.mk (RW.out.2.1 j HJ.out) RW.out.1);rw [← Nat.zero_add j] at CJ;clear hV1;go_upto_region 1 with (fail);have hV0:Below w.heap.size w w.drew:=(Below.refl _ _).drew;generalize Fup (fun _:Nat=>True) w w.drew=F1 at *;clear hV0;refine Rg.Any.begin (S:=Rg.Both 10 (fun W=>Below w.drew.heap.size w.drew W) (fun _=>True)) mix ?_;generalize w.drew=w1 at *;have hS:∀ (l:Array Bool) W,Below w1.heap.size w1 W→Rg.Both 10 (fun W=>Below w1.heap.size w1 W) (fun _=>True) l W:=fun l W h=>⟨.inr h,trivial⟩
 have hS2:∀ (l:Array Bool) W,l.getD 10 false=true→Rg.Both 10 (fun W=>Below w1.heap.size w1 W) (fun _=>True) l W:=fun l W h=>⟨.inl h,trivial⟩;have hI:Below w1.heap.size w1 w1:=Below.refl _ _;refine Rg.tm 0 10 (.slice (some ⟨g,0,none⟩) n cap) 6 (hS _ _ hI) ?_;go_frame;refine Rg.Any.takeT (i:=1) (t:=10) (v:=(.map (some mb))) (some 7) rfl rfl (by kernel_rfl) (by kernel_rfl) (by kernel_rfl) (fun _ _ _ h=>h) rfl (by kernel_rfl) rfl (Rg.yields_cell _ _ rfl rfl ⟨bx,0,none⟩ rfl (fun W hW=>run_loadMW ((Below.cell (p:=⟨bx,0,none⟩) hW CB.out.lt).trans CB.out.cell))) (hS _ _ hI) ?_;go_frame;refine Rg.tm 2 10 (xv) 8 (hS _ _ hI) ?_;go_frame;refine Rg.Any.one (i:=3) (by kernel_rfl) (Rg.Any.ask (some 9) rfl rfl rfl _ _ (exec_fn1 56 _ _ rfl rfl (Bgcl5 _ _)) ?_);refine (key_any NX.out.i (by rw [GX.out.2]; exact hN1) (by rw [GX.out.2]; exact hN) (gd_b GX.out hN)).mono ?_
 rintro e1 w2 ⟨rfl,hb⟩;have hI2_u:=Rg.acc hI hb;clear hI;generalize Fup F1 w1 w2=F2 at *;clear hb;refine ⟨_,rfl,(hS _ _ hI2_u),?_⟩;go_frame;have hlk:=Sm.lookup_no stWords (HQ.out.map.below hI2_u) (keyS x);rw [HLK.out,Option.getD_some] at hlk;refine Rg.Any.one (i:=4) (by kernel_rfl) (Rg.Any.run (some 10) rfl rfl rfl (Rg.exec_lookup _ _ _ _ rfl _ _ rfl rfl hlk) (hS _ _ hI2_u) ?_);go_frame;refine Rg.tg 5 10 (.int .i64 ((j:Nat):Int)) 11 rfl rfl (.inl ⟨rfl,fun w _=>exec_len _ _ _ rfl Tryz.underlying26 _ _ _ rfl⟩) (hS _ _ hI2_u) ?_;go_frame;refine Rg.tg 6 10 (.pointer (some ⟨g,0+j,none⟩)) 12 rfl rfl (Rg.yields_index slInts _ _ rfl rfl g (0) (n) cap (j) rfl rfl HJ.out) (hS _ _ hI2_u) ?_;go_frame;refine Rg.Any.takeT (i:=7) (t:=10) (v:=.int .i64 (f (0+j))) (some 13) rfl rfl (by kernel_rfl) (by kernel_rfl) (by kernel_rfl) (fun _ _ _ h=>h) rfl (by kernel_rfl) rfl (Rg.yields_cell _ _ rfl rfl ⟨g,0+j,none⟩ rfl (fun W hW=>run_loadInt ((Below.cell (p:=⟨g,0+j,none⟩) hW CJ.out.lt).trans CJ.out.cell))) (hS _ _ hI2_u) ?_;go_frame
 refine Rg.tg 8 10 (.int .i64 (f (0+j)+1)) 14 rfl rfl (.inl ⟨rfl,fun w _=>exec_bin (R:=.int .i64 (f (0+j)+1)) .add _ _ _ rfl rfl rfl (b_add _ (by first | rfl | (have:=hf.1; have:=hf.2; simp only [Nat.zero_add]; omega)) (by first | rfl | (have:=hf.1; have:=hf.2; simp only [Nat.zero_add]; omega)))⟩) (hS _ _ hI2_u) ?_;go_frame
 refine Rg.tg 9 10 (.pointer (some ⟨g,0+j,none⟩)) 15 rfl rfl (Rg.yields_index slInts _ _ rfl rfl g (0) (n) cap (j) rfl rfl HJ.out) (hS _ _ hI2_u) ?_;go_frame;have hKK:=hI2_u;have hset:=(RW.out.below hKK).set j (f (0+j)+1) HJ.out;refine Rg.Any.one (i:=10) (by kernel_rfl) (Rg.Any.runSkip none rfl rfl rfl (Rg.exec_store _ _ _ rfl _ rfl _ rfl (run_storeInt (f (0+j)+1) (show _=some (.int .i64 (f j)) from by rw [Nat.zero_add]; exact (RW.out.below hKK).2.1 j HJ.out) ((RW.out.below hKK).2.2 (0+j)))) (hS2 _ _ rfl) ?_);go_frame;refine Rg.Any.done (by kernel_rfl) ?_ _;clear hS2;clear hS hI2_u;go_wp2;go_ret;simp only [Nat.zero_add] at hset ⊢;exact ⟨rfl,hset,fun B' W0 h1 h2 h3=>((KD.out B' W0 h3).trans (hKK.mono (Nat.le_trans h2 HSV.out))).setCell (p:=⟨g,j,none⟩) h1 _⟩

def cnL (st:BSt) (S:List (List Nat)) (i:Nat):Int:=((S.countP fun x=>decide ((wdOf st x).length=i):Nat):Int)
theorem cnL_snoc (st:BSt) (S:List (List Nat)) (x:List Nat) (i:Nat):cnL st (S++[x]) i=if i=(wdOf st x).length then cnL st S (wdOf st x).length+1 else cnL st S i:=by
 unfold cnL;rw [List.countP_append,List.countP_singleton]
 by_cases e:i=(wdOf st x).length
 ·subst e; simp
 ·rw [if_neg e,if_neg (by simpa using fun h=>e h.symm)]; simp
theorem cnL_le (st:BSt) (S:List (List Nat)) (i:Nat):0≤cnL st S i∧cnL st S i≤(S.length:Int):=by
 unfold cnL;have:=List.countP_le_length (p:=fun x=>decide ((wdOf st x).length=i)) (l:=S);omega
theorem foldG_any {B N mb bx n cap:Nat} {st:BSt} {vs:List Value} {xv:Value} {S:List (List Nat)} {w0 w:World} (hr:Rg.Rows w0 xv (S.map Ma.ofN)) (hS:∀ x∈S,x∈st.1∧(wdOf st x).length<n) (hl:S.length≤5040) (hq:WqM B w0 mb st vs) (hbi:BI N st) (hN1:1≤N) (hN:N≤64) (hc:CL w0 bx 0 (.map (some mb))) (hk:Below w0.heap.size w0 w) (hw:RwAt w w0.heap.size n (fun _=>0)) :
  Calls Tryz.prog 59 #[xv,.slice (some ⟨w0.heap.size,0,none⟩) n cap,(.func (.func 60) #[] #[.pointer (some ⟨bx,0,none⟩)])] w fun ed w'=>ed=.returned (.slice (some ⟨w0.heap.size,0,none⟩) n cap)∧RwAt w' w0.heap.size n (cnL st S)∧Below w0.heap.size w0 w':=by
 obtain ⟨xa,xc,e0,-⟩:=hr.shape;obtain ⟨m,hm⟩:∃ m,Hid (S.length=m):=⟨_,ι rfl⟩;rw [List.length_map,hm.out] at e0;subst e0;have HR:=ι hr;have HS:=ι hS;have HQ0:=ι hq;have HBI:=ι hbi;have CB0:=ι hc
 have hm5:m≤5040:=by rw [← hm.out]; exact hl
 have RW0:=ι (show RwAt w w0.heap.size n (cnL st (S.take 0)) from hw);have K0:=ι hk;obtain ⟨g,hg⟩:∃ g,Hid (w0.heap.size=g):=⟨_,ι rfl⟩;rw [hg.out] at RW0 ⊢;clear hr hS hq hbi hc hl hk hw
 go_enter Tryz.func59,Tryz.ntmps59
 go_upto_region 0 with (fail);refine Rg.wl ?_;refine Rg.la 6 (.slice none 0 0) ?_;go_frame;go_upto_region 1 with (fail);refine Rg.wl ?_;refine Rg.lm 9 (.slice xa m xc) ?_;go_frame;refine Rg.lr 10 (exec_len _ _ _ rfl Tryz.underlying22 _ _ _ rfl) ?_;go_frame;refine Rg.lm 11 (.int .i64 ((0:Nat):Int)) ?_;go_frame;go_wp2
 go_loopw [1,11] (fun vv iv wr=>∃ i:Nat,vv=.slice (some ⟨g,0,none⟩) n cap∧iv=.int .i64 ((i:Nat):Int)∧i≤m∧Hid (RwAt wr g n (cnL st (S.take i)))∧Hid (Below w0.heap.size w0 wr)) (fun _ iv _=>m - (intOf iv).toNat)
 case atStart=>exact ⟨0,rfl,rfl,Nat.zero_le _,RW0,K0⟩
 case round =>
  clear RW0 K0;obtain ⟨i,rfl,rfl,hi,RW,K⟩:=hrel
  by_cases hil:i<m
  case neg =>
   have HT:=ι (show S.take i=S from List.take_of_length_le (by have:=hm.out; omega));go_upto_region 2 with (fail);refine Rg.wl ?_;refine Rg.lr 12 (exec_bin (R:=.bool false) .lss _ _ _ rfl rfl rfl (b_lss _ Rg.dF)) ?_;go_frame;go_upto_region 6 with (fail);refine Rg.wl ?_;refine Rg.lm 20 (.slice (some ⟨g,0,none⟩) n cap) ?_;go_frame;refine Rg.la 6 (.slice (some ⟨g,0,none⟩) n cap) ?_;go_frame;go_wp2;go_ret;exact ⟨rfl,by have:=RW.out; rwa [HT.out] at this,by rw [← hg.out]; exact K.out⟩
  case pos =>
   have HIL:=ι hil
   have hiS:i<S.length:=by rw [hm.out]; exact hil
   obtain ⟨b,o,ua,uc,e1,hb0,hc0,hr0⟩:=rows_get HR.out (i:=i) (by rw [List.length_map]; exact hiS);subst e1;obtain ⟨x,hx⟩:∃ x,Hid (S[i]'hiS=x):=⟨_,ι rfl⟩
   have e5:((S.map Ma.ofN)[i]'(by rw [List.length_map]; exact hiS))=Ma.ofN x:=by rw [List.getElem_map,hx.out]
   rw [e5] at hc0 hr0;have CX:=ι ((CL.mk hc0 hb0).below K.out);have NX:=ι (NpI.below (NpI.mk hr0) K.out);have HQ:=ι (HQ0.out.below K.out);have CB:=ι (CB0.out.below K.out);have HXM:=ι (show x∈st.1∧(wdOf st x).length<n from hx.out▸HS.out _ (List.getElem_mem hiS))
   have HCN:=ι (show -1≤cnL st (S.take i) (wdOf st x).length∧cnL st (S.take i) (wdOf st x).length≤100000 by
    have:=cnL_le st (S.take i) (wdOf st x).length
    have h2:(S.take i).length≤5040:=by rw [List.length_take]; omega
    omega)
   have HEN:=ι (show ∀ k,(if k=(wdOf st x).length then cnL st (S.take i) (wdOf st x).length+1 else cnL st (S.take i) k)=cnL st (S.take (i+1)) k from fun k=>by rw [List.take_succ_eq_append_getElem hiS,hx.out,cnL_snoc]);clear hb0 hc0 hr0 e5;go_upto_region 2 with (fail);refine Rg.wl ?_;refine Rg.lr 12 (exec_bin (R:=.bool true) .lss _ _ _ rfl rfl rfl (b_lss _ Rg.dT)) ?_;go_frame;go_upto_region 3 with (fail);refine Rg.wl ?_;refine Rg.lr 13 (exec_indexS slPerms _ _ rfl b (o) (m) xc (i) rfl rfl HIL.out) ?_;go_frame;refine Rg.lr 14 (Rg.exec_load (v:=(.slice ua (Ma.ofN x).length uc)) _ _ rfl ⟨b,o+i,none⟩ rfl (Rg.run_loadSl _ _ Tryz.underlying30 CX.out.cell)) ?_;go_frame;refine Rg.la 8 ((.slice ua (Ma.ofN x).length uc)) ?_;go_frame;go_upto_region 4 with (fail);refine Rg.wl ?_;refine Rg.lm 15 ((.func (.func 60) #[] #[.pointer (some ⟨bx,0,none⟩)])) ?_;go_frame;refine Rg.lm 16 (.slice (some ⟨g,0,none⟩) n cap) ?_;go_frame
   refine Rg.lm 17 ((.slice ua (Ma.ofN x).length uc)) ?_;go_frame;refine Rg.lk 18 (exec_fnc2 60 _ _ _ _ rfl rfl rfl rfl (clGr1 _ _)) ?_;refine (growth1_any (cap:=cap) RW.out HQ.out HBI.out hN1 hN CB.out NX.out.i HXM.out.1 HXM.out.2 HCN.out).mono ?_;rintro e1 w21 ⟨rfl,hrw,hb⟩;have RW2:=ι (RwAt.congr hrw fun k _=>HEN.out k);have K2:=ι (hb _ _ (by rw [hg.out]; exact Nat.le_refl _) K.out.size K.out);clear hrw;refine ⟨_,rfl,?_⟩;go_frame;clear hb;refine Rg.la 1 (.slice (some ⟨g,0,none⟩) n cap) ?_;go_frame;go_upto_region 5 with (fail);refine Rg.wl ?_;refine Rg.lr 19 (exec_bin (R:=.int .i64 (((i+1):Nat):Int)) .add _ _ _ rfl rfl rfl (b_add _ (by omega) (by omega))) ?_;go_frame;refine Rg.lm 11 (.int .i64 (((i+1):Nat):Int)) ?_;go_frame;go_wp2
   go_roundw
   case rel=>exact ⟨i+1,rfl,by go_num,HIL.out,RW2,K2⟩
   case measure=>simp [intOf]; have:=HIL.out; omega

theorem Dtcl2 (args:Array Value) (w:World):(callFunc 59 args).run Tryz.prog w=.ok (.enter 59 args) w:=by kernel_rfl
theorem RwAt.intsL {w:World} {g n cap:Nat} {f:Nat→Int} (h:RwAt w g n f) (hc:n≤cap) (hm:cap≤maxLen) (hn:n≤1000000):Rg.Ints w (.slice (some ⟨g,0,none⟩) n cap) ((List.range n).map f):=by
 refine Rg.Ints.mk (by simp) h.1 (by simpa using hc) hm (by simp; omega) fun i hi=>?_
 have hi':i<n:=by simpa using hi
 rw [Nat.zero_add,h.2.1 i hi'];simp
def GrV (d:Int) (ll:List (List Int)) (l:List Int) (c:Int):Prop :=
 (Ma.gchk d ll≠0∧c=Ma.gchk d ll∧l=[]) ∨
  (Ma.gchk d ll=0∧∃ (N:Nat) (gs:List (List Nat)) (O:List (List Nat)) (R:List (List (List Nat))),d=((N:Nat):Int)∧ll=gs.map Ma.ofN∧1≤N∧(∀ s∈gs,Gd N s)∧IsChain N (Cm.Gr N (·∈gs)) O R ∧
   ((5040<szD O N N∧c=5∧l=[]) ∨
   (szD O N N≤5040∧c=0∧∃ (st:BSt) (wl:List Int),BfE (mlets gs) N st∧st.2[st.2.length - 1]?=some wl∧l=(List.range (wl.length+1)).map (cnL st st.1))))
def GrPost (d:Int) (ll:List (List Int)) (w:World) (ed:Ending) (w':World):Prop:=∃ v l c,ed=.returned (.tuple #[v,.int .i64 c])∧GrV d ll l c∧Rg.Ints w' v l∧Below w.heap.size w w'
theorem fcGrowth_any (gv:Value) (d:Int) (ll:List (List Int)) (w:World) (h:Rg.Rows w gv ll) (hd:d≤12) :
  Calls Tryz.prog 20 #[.agg #[.int .i64 d,gv]] w (GrPost d ll w):=by
 obtain ⟨ga,gc,rfl,hga,hba⟩:=GI.enter (d) h;have K:=ι hba;have G0:=ι hga;clear h hga hba
 go_enter Tryz.func20,Tryz.ntmps20
 go_upto_region 0 with (fail);refine Rg.wl ?_;refine Rg.lr 1 (Rg.exec_box _ _ rfl rfl) ?_;go_frame;refine Rg.la 2 (.slice none 0 0) ?_;go_frame;refine Rg.la 3 (.int .i64 0) ?_;go_frame;obtain ⟨gb,hgb⟩:∃ gb,w.heap.size=gb:=⟨_,rfl⟩;rw [hgb] at G0 ⊢;generalize w.alloc (.cells #[.int .i64 d,.slice ga ll.length gc] 24)=w0 at *;clear hgb;go_upto_region 1 with (fail);refine Rg.wl ?_;refine Rg.lr 9 (Rg.exec_load (v:=.agg #[.int .i64 d,.slice ga ll.length gc]) _ _ rfl ⟨gb,0,none⟩ rfl (run_loadG G0.out.c0 G0.out.c1)) ?_;go_frame;refine Rg.lk 10 (exec_fn1 51 _ _ rfl rfl (Bmcl0 _ _)) ?_;refine (fcSearch_v _ d ll w0 G0.out.rows hd).mono ?_;rintro e1 w1 ⟨fa,fn,fc,mo,c,rfl,hsr,hb⟩;have SR:=ι hsr;clear hsr;refine ⟨_,rfl,?_⟩;go_frame;replace G0:=ι (G0.out.below hb);replace K:=ι (Rg.acc K.out hb);clear hb;refine Rg.lm 8 (.tuple #[.slice fa fn fc,(.map mo),.int .i64 c]) ?_;go_frame
 refine Rg.lr 11 (exec_extract (v:=.slice fa fn fc) _ _ rfl rfl rfl) ?_;go_frame;refine Rg.lr 12 (exec_extract (v:=(.map mo)) _ _ rfl rfl rfl) ?_;go_frame;refine Rg.lr 13 (exec_extract (v:=.int .i64 c) _ _ rfl rfl rfl) ?_;go_frame;refine Rg.lr 5 (exec_allocMW rfl) ?_;go_frame;refine Rg.la 4 (.slice fa fn fc) ?_;go_frame;refine Rg.list_skip none rfl rfl (Rg.exec_store _ _ _ rfl _ rfl _ rfl (run_storeMW _ (by rw [Rg.cellNew]; rfl) (frozenNewN _ _ _ 0 _))) ?_;go_frame;have hbx:=boxMW w1 mo 76;have HKS:=ι hbx.2;have hb:=hbx.2;generalize (w1.alloc (.cells #[.map none] 76)).setCell ⟨w1.heap.size,0,none⟩ (.map mo)=w2 at *;replace G0:=ι (G0.out.below hb);replace K:=ι (Rg.acc K.out hb);clear hb;have CB:=ι hbx.1;clear hbx;refine Rg.la 6 (.int .i64 c) ?_;go_frame
 rcases SR.out with ⟨h1,rfl,-⟩ | ⟨h1,N,gs,O,R,rfl,rfl,hN1,hgl,hgd,hch,⟨h2,rfl,-⟩ | ⟨h2,rfl,mb,vs,st,rfl,hbe,hbi,hl,hl1,hbf⟩⟩
 ·skip
  go_upto_region 2 with (fail);refine Rg.wl ?_;refine Rg.lm 14 (.int .i64 (Ma.gchk d ll)) ?_;go_frame;refine Rg.lr 15 (exec_bin (R:=.bool true) .neq _ _ _ rfl rfl rfl (b_neqB _ (decide_eq_true h1))) ?_;go_frame;go_upto_region 3 with (fail);refine Rg.wl ?_;refine Rg.lm 16 (.int .i64 (Ma.gchk d ll)) ?_;go_frame;refine Rg.la 2 (.slice none 0 0) ?_;go_frame;refine Rg.la 3 (.int .i64 (Ma.gchk d ll)) ?_;go_frame;go_wp2
  go_ret2
  exact ⟨_,[],_,rfl,.inl ⟨h1,rfl,rfl⟩,ints_nil _,K.out⟩
 ·skip
  go_upto_region 2 with (fail);refine Rg.wl ?_;refine Rg.lm 14 (.int .i64 5) ?_;go_frame;refine Rg.lr 15 (exec_bin (R:=.bool true) .neq _ _ _ rfl rfl rfl (b_neqB _ (decide_eq_true (by decide)))) ?_;go_frame;go_upto_region 3 with (fail);refine Rg.wl ?_;refine Rg.lm 16 (.int .i64 5) ?_;go_frame;refine Rg.la 2 (.slice none 0 0) ?_;go_frame;refine Rg.la 3 (.int .i64 5) ?_;go_frame;go_wp2
  go_ret2
  exact ⟨_,[],_,rfl,.inr ⟨h1,N,gs,O,R,rfl,rfl,hN1,hgd,hch,.inl ⟨h2,rfl,rfl⟩⟩,ints_nil _,K.out⟩
 ·skip
  go_upto_region 2 with (fail);refine Rg.wl ?_;refine Rg.lm 14 (.int .i64 0) ?_;go_frame;refine Rg.lr 15 (exec_bin (R:=.bool false) .neq _ _ _ rfl rfl rfl (b_neqB _ (decide_eq_false (by decide)))) ?_;go_frame;have HBE:=ι hbe;have HBI:=ι hbi;have HBF:=ι (hbf.below HKS.out);obtain ⟨xl,hxl⟩:∃ x,Hid (st.1[st.1.length - 1]?=some x):=⟨_,ι (List.getElem?_eq_getElem (by omega))⟩;obtain ⟨wl,hwl⟩:∃ x,Hid (st.2[st.1.length - 1]?=some x):=⟨_,ι (List.getElem?_eq_getElem (by rw [HBI.out.ln]; omega))⟩;obtain ⟨wv,hwv⟩:∃ x,Hid (vs[st.1.length - 1]?=some x):=⟨_,ι (List.getElem?_eq_getElem (by rw [HBF.out.vl]; omega))⟩;obtain ⟨hew,wb,wo,wc,hws⟩:=HBF.out.word hwv.out hwl.out;subst hws;have HWL:=ι (show wl.length≤5040 from Nat.le_trans (HBI.out.wl wl (List.mem_of_getElem? hwl.out)) hl);have HWR:=ι (HBF.out.els.mono (F':=fun k=>k<w2.heap.size) (fun k g=>g.1))
  obtain ⟨fb,fo,fc9,uv,e1,hcu,heu⟩:=HBF.out.at (by omega) (i:=st.1.length - 1) (by omega) hxl.out
  have HRS:=ι (show Rg.Rows w2 (.slice fa fn fc) (st.1.map Ma.ofN) by
   obtain ⟨us,q1,q2⟩:=HBF.out.row
   exact Rg.Rows.of_row q1 (by omega) q2.1 (fun i a b=>(q2.2 i a b).ints))
  simp only [Value.slice.injEq] at e1;obtain ⟨rfl,rfl,rfl⟩:=e1;have CU:=ι hcu;have EU:=ι heu;have HLK:=ι (look_at HBI.out.nd (fun y hy=>gd_b (HBI.out.gd y hy) (by omega)) hxl.out hwv.out);have GX:=ι (HBI.out.gd xl (List.mem_of_getElem? hxl.out));have HQ:=ι (show WqM w2.heap.size w2 mb st vs from ⟨HBF.out.map,HWR.out⟩)
  have HLA:=ι (show ∀ x∈st.1,x∈st.1∧(wdOf st x).length<wl.length+1 from fun x hx=>⟨hx,by
   have q1:st.1.idxOf x<st.1.length:=List.idxOf_lt_length_of_mem hx
   have q2:st.1.idxOf x<st.2.length:=by rw [HBI.out.ln]; exact q1
   have q3:wdOf st x∈st.2:=by
    unfold wdOf;rw [List.getD_eq_getElem?_getD,List.getElem?_eq_getElem q2];exact List.getElem_mem q2
   have:=HBE.out.last hgd (w:=wl) (by rw [HBI.out.ln]; exact hwl.out) _ q3
   omega⟩)
  clear hcu heu hew hbe hbi hbf SR HWR HBF;have HR0:=ι (RsO.mk HRS.out);clear HRS;go_upto_region 4 with (fail);have hV0:Below w2.heap.size w2 w2.drew:=(Below.refl _ _).drew;replace CB:=ι (CB.out.below hV0);replace CU:=ι (CU.out.below hV0);replace EU:=ι (EU.out.below hV0);replace HQ:=ι (HQ.out.below hV0);replace HR0:=ι (HR0.out.below hV0);replace K:=ι (Rg.acc K.out hV0);clear hV0;refine Rg.Any.begin (S:=Rg.Both 9 (fun _=>True) (fun W=>Below w2.drew.heap.size w2.drew W)) mix ?_;generalize w2.drew=w3 at *;have hS:∀ (l:Array Bool) W,Below w3.heap.size w3 W→Rg.Both 9 (fun _=>True) (fun W=>Below w3.heap.size w3 W) l W:=fun l W h=>⟨.inr trivial,h⟩;have hI:Below w3.heap.size w3 w3:=Below.refl _ _;refine Rg.tg 0 9 ((.map (some mb))) 17 rfl rfl (Rg.yields_cell _ _ rfl rfl ⟨w1.heap.size,0,none⟩ rfl (fun W hW=>run_loadMW ((Below.cell (p:=⟨w1.heap.size,0,none⟩) hW CB.out.lt).trans CB.out.cell))) (hS _ _ hI) ?_;go_frame
  refine Rg.tm 1 9 (.slice (some ⟨fb,fo,none⟩) st.1.length fc) 18 (hS _ _ hI) ?_;go_frame;refine Rg.tm 2 9 (.slice (some ⟨fb,fo,none⟩) st.1.length fc) 19 (hS _ _ hI) ?_;go_frame;refine Rg.tg 3 9 (.int .i64 ((st.1.length:Nat):Int)) 20 rfl rfl (.inl ⟨rfl,fun w _=>exec_len _ _ _ rfl Tryz.underlying22 _ _ _ rfl⟩) (hS _ _ hI) ?_;go_frame;refine Rg.tg 4 9 (.int .i64 (((st.1.length - 1):Nat):Int)) 21 rfl rfl (.inl ⟨rfl,fun w _=>exec_bin (R:=.int .i64 (((st.1.length - 1):Nat):Int)) .sub _ _ _ rfl rfl rfl (b_sub _ (by omega) (by omega))⟩) (hS _ _ hI) ?_;go_frame;refine Rg.tg 5 9 (.pointer (some ⟨fb,fo+(st.1.length - 1),none⟩)) 22 rfl rfl (Rg.yields_index slPerms _ _ rfl rfl fb (fo) (st.1.length) fc ((st.1.length - 1)) rfl rfl (by omega)) (hS _ _ hI) ?_;go_frame;refine Rg.tg 6 9 (uv) 23 rfl rfl (Rg.yields_cell _ _ rfl rfl ⟨fb,fo+(st.1.length - 1),none⟩ rfl (fun W hW=>Rg.run_loadSl _ _ Tryz.underlying30 ((Below.cell (p:=⟨fb,fo+(st.1.length - 1),none⟩) hW CU.out.lt).trans CU.out.cell))) (hS _ _ hI) ?_;go_frame
  refine Rg.Any.one (i:=7) (by kernel_rfl) (Rg.Any.ask (some 24) rfl rfl rfl _ _ (exec_fn1 56 _ _ rfl rfl (Bgcl5 _ _)) ?_);refine (key_any EU.out.np (by rw [GX.out.2]; exact hN1) (by rw [GX.out.2]; omega) (gd_b GX.out (by omega))).mono ?_;rintro e1 w4 ⟨rfl,hb⟩;have hI2_0:=Rg.acc hI hb;clear hb hI;refine ⟨_,rfl,(hS _ _ hI2_0),?_⟩;go_frame;have hlk:=Sm.lookup_no stWords (HQ.out.below hI2_0).map (keyS xl);rw [HLK.out,Option.getD_some] at hlk;refine Rg.Any.one (i:=8) (by kernel_rfl) (Rg.Any.run (some 25) rfl rfl rfl (Rg.exec_lookup _ _ _ _ rfl _ _ rfl rfl hlk) (hS _ _ hI2_0) ?_);go_frame;refine Rg.Any.one (i:=9) (by kernel_rfl) (Rg.Any.run (some 7) rfl rfl rfl (Rg.xa (.slice (some ⟨wb,wo,none⟩) wl.length wc) _ rfl rfl) (hS _ _ hI2_0) ?_);go_frame;refine Rg.Any.done (by kernel_rfl) ?_ _;replace CB:=ι (CB.out.below hI2_0);replace CU:=ι (CU.out.below hI2_0);replace EU:=ι (EU.out.below hI2_0)
  replace HQ:=ι (HQ.out.below hI2_0);replace HR0:=ι (HR0.out.below hI2_0);replace K:=ι (Rg.acc K.out hI2_0);clear hS hI2_0;have hrw:=made_rowH w4 (wl.length+1);have hbw:Below w4.heap.size w4 (w4.alloc (.cells (madeCells #[.int .i64 0] (wl.length+1)) 3)):=(Below.refl _ _).alloc (Nat.le_refl _) _;have HWW:=HWL.out;go_upto_region 5 with (fail);refine Rg.wl ?_;refine Rg.lm 26 (.slice (some ⟨fb,fo,none⟩) st.1.length fc) ?_;go_frame;refine Rg.lm 27 (.slice (some ⟨wb,wo,none⟩) wl.length wc) ?_;go_frame;refine Rg.lr 28 (exec_len _ _ _ rfl Tryz.underlying26 _ _ _ rfl) ?_;go_frame;refine Rg.lr 29 (exec_bin (R:=.int .i64 (((wl.length+1):Nat):Int)) .add _ _ _ rfl rfl rfl (b_add _ (by omega) (by omega))) ?_;go_frame;refine Rg.lr 30 (exec_makeSlice _ _ _ rfl _ _ rfl rfl (mkInts (wl.length+1) (by omega) w4)) ?_;go_frame;refine Rg.lr 31 (exec_makeFunc 60 _ rfl rfl) ?_;go_frame
  refine Rg.lk 32 (exec_fn3 59 _ _ _ _ rfl rfl rfl rfl (Dtcl2 _ _)) ?_;refine (foldG_any (cap:=wl.length+1) HR0.out.r HLA.out hl HQ.out HBI.out hN1 (by omega) CB.out hbw hrw).mono ?_;rintro e1 w5 ⟨rfl,hrg,hb⟩;have KB:=ι hb;refine ⟨_,rfl,?_⟩;go_frame;clear hb;refine Rg.la 2 (.slice (some ⟨w4.heap.size,0,none⟩) (wl.length+1) (wl.length+1)) ?_;go_frame;refine Rg.la 3 (.int .i64 ((0:Nat):Int)) ?_;go_frame
  have hml:wl.length+1≤maxLen:=by unfold maxLen; omega
  have hin:=RwAt.intsL hrg (Nat.le_refl _) hml (by omega);have K9:=ι (Rg.acc K.out KB.out);go_wp2
  go_ret2
  exact ⟨_,_,0,rfl,.inr ⟨h1,N,gs,O,R,rfl,rfl,hN1,hgd,hch,.inr ⟨h2,rfl,st,wl,HBE.out,by rw [HBI.out.ln]; exact hwl.out,rfl⟩⟩,hin,K9.out⟩
end Go.Proofs.YtdnmmibchbceeaaGreat
