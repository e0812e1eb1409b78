/- Lemmas and contracts on the way to the statement; no condition of their own beyond those written. -/
import Derived.Test.YthehbckogieimaaGreatXWvtoYe
import Derived.ChangeKeysEq
import Derived.Laws.Cells
import Derived.Laws.Rows
import Derived.Laws.Tables
import Derived.Deep.WholeRow
import Derived.Deep.OwnRows
import Derived.Deep.CutRange
import Derived.Deep.CutBlock
import Derived.IntWalk
import Derived.Great.BuildSlice
import Derived.ArgAppend
import Derived.Laws.CopyOwn
import Derived.StillTailTactics
import Derived.Deep.MidRow
import Derived.WalkSpells
import Derived.WalkLawsBesides
import Derived.Maps.AppendAt
import Derived.OwnWalk
import Derived.OrdersHeld
import Derived.WalkKit
import Derived.Lib.Hide
import Derived.Laws.OwnMore
import Derived.Test.YthehbckogieimaaGreatProg
import Derived.Outline
import Derived.Deep.DeepFit
import Derived.BigQuiet
import Derived.Deep.QuietTactic
import Derived.Sort.OwnSortedInts
import Derived.WideMake
import Derived.MapKept
import Derived.ChangeMaps5
import Derived.Shelf.Sort.Plain
import Derived.RangeFuncBox
import Derived.RangeFuncLeaves
import Derived.Shelf.Abstract
import Derived.OwnWalkIn
import Derived.TacticsInMore
import Derived.LoopNIn
import Derived.LoopIn
import Derived.RangeFuncWrites
import Derived.RangeFuncNested
import Derived.Sort.CutIn
import Derived.OrdersIn
import Derived.TacticsIn
import Derived.Lib.ConvBytes
import Derived.Deep.LoopGhost
import Derived.Lib.SlicesSearch
set_option linter.unusedVariables false
set_option linter.unusedSimpArgs false
set_option maxRecDepth 100000
set_option maxHeartbeats 8000000
namespace Go.Proofs.YthehbckogieimaaGreat
open Go.Proofs
open Go.Proofs.Cm (Tr TabOk Gr Gd Sd idT sfP)
def ins1 (n:Nat) (tr:Tr) (x:List Nat):Tr:=insT n tr (sfP n (idT n tr) n x)
structure TL (n:Nat) (gs:List Nat→Prop) (tr:Tr) (l:List (List Nat)):Prop where
 ok:TabOk n gs tr
 sd:∀ x∈l,Sd n (idT n tr) n x
theorem TL.nil (n:Nat) (gs:List Nat→Prop):TL n gs (fun _ _=>none) []:=⟨Cm.TabOk.nil0,fun x hx=>by simp at hx⟩
theorem TL.ins {n:Nat} {gs:List Nat→Prop} (hg:∀ s,gs s→Gd n s) {tr:Tr} {l:List (List Nat)} (h:TL n gs tr l) {x:List Nat} (hx:Gr n gs x):TL n gs (ins1 n tr x) (l++[x]):=by
 obtain ⟨h1,h2,h3,_⟩:=tab_ins hg h.ok hx;refine ⟨h1,fun y hy=>?_⟩
 rcases List.mem_append.1 hy with hy | hy
 ·exact Sd.mono (fun i p u _=>h2 i p u) (h.sd y hy)
 ·rw [List.mem_singleton] at hy; subst hy; exact h3
def pickV (x n:Int):Int:=if x.tmod n<0 then x.tmod n+n else x.tmod n
theorem pickV_range {x n:Int} (h0:0<n):0≤pickV x n∧pickV x n<n:=by
 have h2:=Int.tmod_lt_of_pos x h0
 have h3:-n<x.tmod n:=by
  have:=Int.lt_tmod_of_pos x h0;omega
 unfold pickV
 split <;> omega
def stepR (n:Nat) (st:List (List Nat) × Tr) (a b:Int):List (List Nat) × Tr :=
 (st.1.set (pickV a st.1.length).toNat (Ma.mulN (st.1.getD (pickV a st.1.length).toNat []) (st.1.getD (pickV b st.1.length).toNat [])),
  ins1 n st.2 (Ma.mulN (st.1.getD (pickV a st.1.length).toNat []) (st.1.getD (pickV b st.1.length).toNat [])))
def stR (n:Nat) (s0:List (List Nat) × Tr) (nums:List Int):Nat→List (List Nat) × Tr
 | 0=>s0
 | k+1=>stepR n (stR n s0 nums k) (nums.getD (2*k) 0) (nums.getD (2*k+1) 0)
theorem stR_len {n:Nat} {s0:List (List Nat) × Tr} {nums:List Int}:∀ k,(stR n s0 nums k).1.length=s0.1.length
 | 0=>rfl
 | k+1=>by
  show ((stR n s0 nums k).1.set _ _).length=_;rw [List.length_set,stR_len k]
structure RI (n:Nat) (gs:List Nat→Prop) (st:List (List Nat) × Tr):Prop where
 gr:∀ x∈st.1,Gr n gs x
 tl:∃ l,TL n gs st.2 l∧∀ s,gs s→s∈l
theorem getD_mem {l:List (List Nat)} {i:Nat} (h:i<l.length):l.getD i []∈l:=by rw [getD_li h]; exact List.getElem_mem h
theorem RI.step {n:Nat} {gs:List Nat→Prop} (hg:∀ s,gs s→Gd n s) {st:List (List Nat) × Tr} (h:RI n gs st) (h0:0<st.1.length) (a b:Int):RI n gs (stepR n st a b):=by
 have ha:=pickV_range (x:=a) (n:=st.1.length) (by omega);have hb:=pickV_range (x:=b) (n:=st.1.length) (by omega);have hy:Gr n gs (Ma.mulN (st.1.getD (pickV a st.1.length).toNat []) (st.1.getD (pickV b st.1.length).toNat [])):=.mul _ _ (h.gr _ (getD_mem (by omega))) (h.gr _ (getD_mem (by omega)));refine ⟨fun x hx=>?_,?_⟩
 ·rcases List.mem_or_eq_of_mem_set hx with h1 | h1
  ·exact h.gr x h1
  ·rw [h1]; exact hy
 ·obtain ⟨l,h1,h2⟩:=h.tl
  exact ⟨_,h1.ins hg hy,fun s hs=>List.mem_append.2 (.inl (h2 s hs))⟩
theorem RI.all {n:Nat} {gs:List Nat→Prop} (hg:∀ s,gs s→Gd n s) {s0:List (List Nat) × Tr} (h:RI n gs s0) (h0:0<s0.1.length) (nums:List Int):∀ k,RI n gs (stR n s0 nums k)
 | 0=>h
 | k+1=>(RI.all hg h h0 nums k).step hg (by rw [stR_len]; exact h0) _ _
def tabL (n:Nat) (l:List (List Nat)):Tr:=l.foldl (ins1 n) (fun _ _=>none)
theorem TL.fold {n:Nat} {gs:List Nat→Prop} (hg:∀ s,gs s→Gd n s):∀ (l pre:List (List Nat)) (tr:Tr),TL n gs tr pre→(∀ x∈l,Gr n gs x)→TL n gs (l.foldl (ins1 n) tr) (pre++l)
 | [],pre,tr,h,_=>by rw [List.append_nil]; exact h
 | x :: l,pre,tr,h,hx=>by
  have:=TL.fold hg l (pre++[x]) (ins1 n tr x) (h.ins hg (hx x (by simp))) fun y hy=>hx y (by simp [hy]);rw [List.append_assoc] at this;exact this
theorem TL.tabL {n:Nat} {gs:List Nat→Prop} (hg:∀ s,gs s→Gd n s) (l:List (List Nat)) (h:∀ x∈l,Gr n gs x):TL n gs (tabL n l) l:=TL.fold hg l [] _ (TL.nil n gs) h
def startR (n:Nat) (gs:List (List Nat)):List (List Nat) × Tr:=(gs++gs.map Ma.invN,tabL n gs)
theorem RI.start {n:Nat} {gs:List (List Nat)} (hg:∀ s∈gs,Gd n s):RI n (·∈gs) (startR n gs):=by
 refine ⟨fun x hx=>?_,gs,TL.tabL hg gs fun x hx=>.gen x hx,fun s hs=>hs⟩
 rcases List.mem_append.1 hx with h | h
 ·exact .gen x h
 ·obtain ⟨y,hy,rfl⟩:=List.mem_map.1 h
  exact (Gr.isG hg).inv y (.gen y hy)
end Go.Proofs.YthehbckogieimaaGreat

namespace Go.Proofs.YthehbckogieimaaGreat
open Go.RowKit
open Go.Proofs
open Go.Proofs.Cm (Tr)
theorem RowG.push {F M:Nat→Prop} {W:World} {v:Value} {l:List (List Nat)} (h:RowG F M W v l) {u:Value} {x:List Nat} (hu:FP F W u x) (hs:∃ a m c,u=.slice a m c) (hF:∀ k,F k→k<W.heap.size) (hM:∀ k,M k→k<W.heap.size) (hn:l.length<1000000) (ty:TypeId) :
  ∃ a c X,(Builtin.append_ #[22,22] ty #[v,.slice (some ⟨W.heap.size,0,none⟩) 1 1]).run Tryz.prog (W.alloc (.cells #[u] 51))=.ok (.slice a (l.length+1) c) X∧RowG F M X (.slice a (l.length+1) c) (l++[x])∧Rg.Kp (fun k=>v.ownBlock=some k) W X:=by
 obtain ⟨B,us,h0,h1,h2⟩:=h.own;obtain ⟨a0,m0,c0,rfl⟩:=hs;have hb:Below W.heap.size W (W.alloc (.cells #[.slice a0 m0 c0] 51)):=(Below.refl _ _).alloc (Nat.le_refl _) _;obtain ⟨v',X,r1,r2,r3,r4,a,c,rfl⟩:=app_run (P:=Tryz.prog) slPerms ty (Rg.row_below h1 hb) (Nat.le_trans h0 hb.size) W.heap.size 1 (u:=.slice a0 m0 c0) (by rw [Rg.cellNew]; rfl) rfl hn;have hk:Rg.Kp (fun k=>v.ownBlock=some k) W X:=Rg.Kp.trans (M:=fun k=>v.ownBlock=some k) ((Rg.Kp.of_below hb).weak fun _=>False.elim) (Rg.Kp.of_grown r3 fun _ e=>e) (fun _ _ e=>e);have hg:∀ k,F k→¬ v.ownBlock=some k:=fun k g e=>(h.off k e).1 g;refine ⟨a,c,X,r1,⟨⟨B,us++[.slice a0 m0 c0],Nat.le_trans h0 hk.size,by rw [List.length_append]; exact r2,by rw [List.map_append]; exact FElts.snoc (h2.kp hk hg) (Rg.FI.kp hu hk hg)⟩,fun k e=>?_⟩,hk⟩
 rcases r4 with r4 | r4
 ·exact h.off k (by rw [← r4]; exact e)
 ·rw [r4] at e
  injection e with e
  have e2:(W.alloc (.cells #[.slice a0 m0 c0] 51)).heap.size=W.heap.size+1:=by simp
  exact ⟨fun g=>by have:=hF _ g; omega,fun g=>by have:=hM _ g; omega⟩
theorem RowG.set {F M:Nat→Prop} {W:World} {g c:Nat} {l:List (List Nat)} (h:RowG F M W (.slice (some ⟨g,0,none⟩) l.length c) l) (i:Nat) {u:Value} {x:List Nat} (hu:FP F W u x) :
  RowG F M (W.setCell ⟨g,i,none⟩ u) (.slice (some ⟨g,0,none⟩) l.length c) (l.set i x)∧Rg.Kp (fun k=>k=g) W (W.setCell ⟨g,i,none⟩ u):=by
 obtain ⟨B,us,h0,h1,h2⟩:=h.own;have hk:Rg.Kp (fun k=>k=g) W (W.setCell ⟨g,i,none⟩ u):=Rg.Kp.of_setCell rfl;have hg:∀ k,F k→¬ k=g:=fun k e e2=>(h.off g rfl).1 (e2▸e);have h2':=h2.kp hk hg;refine ⟨⟨⟨B,us.set i u,Nat.le_trans h0 hk.size,?_,?_,fun j hj hj2=>?_⟩,h.off⟩,hk⟩
 ·rw [List.length_set]; exact (h1.stored i u).1
 ·rw [List.length_set,List.length_map,List.length_set,← List.length_map (f:=Ma.ofN)]; exact h2.1
 ·have e1:j<us.length:=by rwa [List.length_set] at hj
  have e2:j<l.length:=by rwa [List.length_map,List.length_set] at hj2
  by_cases e:i=j
  ·subst e
   simp only [List.getElem_set_self,List.getElem_map];exact Rg.FI.kp hu hk hg
  ·simp only [List.getElem_set_ne e,List.getElem_map]
   have:=h2'.2 j e1 (by rw [List.length_map]; exact e2)
   simpa using this
theorem RowG.frozen {F M:Nat→Prop} {W:World} {g n c:Nat} {l:List (List Nat)} (h:RowG F M W (.slice (some ⟨g,0,none⟩) n c) l) (hn:n=l.length) (i:Nat):W.frozen? ⟨g,i,none⟩=false:=by
 subst hn;obtain ⟨B,us,h0,h1,h2⟩:=h.own;exact h1.frozenAt i
end Go.Proofs.YthehbckogieimaaGreat

namespace Go.Proofs.YthehbckogieimaaGreat
open Go.RowKit
open Go.Proofs
open Go.Proofs.Cm (Tr)
attribute [local irreducible] Go.Calls Go.wpList
theorem KI.weak {F F' M M':Nat→Prop} {w w':World} (h:KI F w F' w' M) (hM:∀ z,M z→M' z):KI F w F' w' M':=⟨h.kg,h.kp.weak hM,h.new⟩
theorem KI.trans {F F' F'' M:Nat→Prop} {w w' w'':World} (h:KI F w F' w' M) (h':KI F' w' F'' w'' M):KI F w F'' w'' M :=
 ⟨h.kg.trans h'.kg,Rg.Kp.trans (M:=M) h.kp h'.kp (fun _ _ e=>e),fun k hk=>by
  rcases h'.new k hk with e | e
  ·exact h.new k e
  ·exact .inr (Nat.le_trans h.kp.size e)⟩
end Go.Proofs.YthehbckogieimaaGreat

namespace Go.Proofs.YthehbckogieimaaGreat
open Go.RowKit
open Go.Proofs
open Go.Proofs.Ob
open Go.Proofs.Cm (Tr TabOk)
attribute [local irreducible] Go.Calls Go.wpList
theorem RowG.nil (F M:Nat→Prop) (W:World):RowG F M W (.slice none 0 0) []:=⟨⟨W.heap.size,[],Nat.le_refl _,World.ownsRow_nil _ _ _ _,Rg.FElts.nil _ _⟩,fun k e=>by simp [Value.ownBlock] at e⟩
end Go.Proofs.YthehbckogieimaaGreat

namespace Go.Proofs.YthehbckogieimaaGreat
open Go.RowKit
open Go.Proofs
open Go.Proofs.Cm (Tr)
theorem exec_fnc1 {o:Oper} {a:Act} {w:World} {u1 x1:Value} (F:FuncId) (f x:Operand) (tys:Array TypeId) (ho:o.op=.call { callee:=.value f,args:=#[x],argTypes:=tys }) (hf:a.eval f=.func (.func F) #[] #[u1]) (hx:a.eval x=x1)
  (hF:(callFunc F #[x1,u1]).run Tryz.prog w=.ok (.enter F #[x1,u1]) w):(execOp a.eval o).run Tryz.prog w=.ok (.enter F #[x1,u1]) w:=by
 unfold execOp;simp [ho,hx,hf,resolve,invoke,Deferred.ofValue,hF]
theorem exec_makeFunc2 {o:Oper} {a:Act} {w:World} (F:FuncId) (x y:Operand) (ho:o.op=.makeFunc (.func F) #[] #[x,y]) {v u:Value} (hx:a.eval x=v) (hy:a.eval y=u):(execOp a.eval o).run Tryz.prog w=.ok (.value (.func (.func F) #[] #[v,u])) w:=by
 unfold execOp;simp [ho,hx,hy,Instr.makeFunc]
theorem CW.up {w w':World} {b:Nat} {v:Value} (h:CW w b v) (hb:Below w.heap.size w w'):CW w' b v:=h.below hb
theorem RowG.below {F M:Nat→Prop} {W W':World} {v:Value} {l:List (List Nat)} (h:RowG F M W v l) (hb:Below W.heap.size W W'):RowG F M W' v l:=by
 obtain ⟨B,us,g0,g1,g2⟩:=h.own;exact ⟨⟨B,us,Nat.le_trans g0 hb.size,Rg.row_below g1 hb,g2.kp (M:=fun _=>False) (Rg.Kp.of_below hb) (fun _ _=>id)⟩,h.off⟩
theorem KG.bel {F0 F:Nat→Prop} {w0 w w':World} (h:KG F0 w0 F w) (hb:Below w.heap.size w w'):KG F0 w0 F w':=h.kf' (KF.of_below hb)
end Go.Proofs.YthehbckogieimaaGreat

namespace Go.Proofs.YthehbckogieimaaGreat
open Go.Proofs
open Go.Proofs.Cm (Gr Gd IsChain IsG St Tr Fx ap Rp IsTr Sd sfP Lst)
theorem getD_idx {l:List Nat} {p:Nat} (h:p∈l):l.getD (l.idxOf p) 0=p:=by
 have hl:=List.idxOf_lt_length_of_mem h;rw [List.getD_eq_getElem?_getD,List.getElem?_eq_getElem hl];exact List.getElem_idxOf hl
end Go.Proofs.YthehbckogieimaaGreat

namespace Go.Proofs.YthehbckogieimaaGreat
open Go.RowKit
open Go.Proofs
open Go.Proofs.Ob
open Go.Shelf
open Go.Proofs.Cm (Tr Gd ap sfP)
attribute [local go_sem] Oper.semAt_some
attribute [local irreducible] Go.Calls Go.wpList Go.wpListIn
theorem exec_allocPm {o:Oper} {a:Act} {w:World} (ho:o.op=.alloc 51):(execOp a.eval o).run Tryz.prog w=.ok (.value (.pointer (some ⟨w.heap.size,0,none⟩))) (w.alloc (.cells #[.slice none 0 0] 51)):=by
 obtain ⟨i0,hi,hz0,hz1,hz2⟩:=info_parts infoPerm;unfold execOp;simp [ho,Instr.alloc,typeInfo,zeroValue,hi,hz0,newVar,Value.cells,Result.andThen];rfl
theorem gd_mem {n:Nat} {y:List Nat} (h:Gd n y) {z:Nat} (hz:z∈y):z<n:=by
 obtain ⟨i,hi,rfl⟩:=List.getElem_of_mem hz;have:=Cm.ap_lt h (i:=i) (by rw [← h.2]; exact hi)
 rwa [Cm.ap_at hi] at this
end Go.Proofs.YthehbckogieimaaGreat

namespace Go.Proofs.YthehbckogieimaaGreat
open Go.Proofs
open Go.Proofs.Cm (Gr Gd IsChain IsG St Tr ap sfP Lst)
open Classical in
noncomputable def chCode (n:Int) (OO:List (List Int)) (RR:List (List (List Int))):Int:=if 1≤n∧n≤64 then (if ChOK n OO RR then 0 else 3) else 2
theorem chCode_C {n:Int} {OO:List (List Int)} {RR:List (List (List Int))}:ChC n OO RR (chCode n OO RR):=by
 unfold chCode
 by_cases h:1≤n∧n≤64
 ·rw [if_pos h]
  by_cases h2:ChOK n OO RR
  ·rw [if_pos h2]; exact .inr ⟨h,.inl ⟨h2,rfl⟩⟩
  ·rw [if_neg h2]; exact .inr ⟨h,.inr ⟨h2,rfl⟩⟩
 ·rw [if_neg h]; exact .inl ⟨h,rfl⟩
theorem chCode_eq {n:Int} {OO:List (List Int)} {RR:List (List (List Int))} {c:Int} (h:ChC n OO RR c):c=chCode n OO RR:=h.uniq chCode_C
theorem chCode_ok {n:Int} {OO:List (List Int)} {RR:List (List (List Int))} (h:chCode n OO RR=0):ChOK n OO RR:=by
 have:=chCode_C (n:=n) (OO:=OO) (RR:=RR);rw [h] at this;exact this.zero
theorem chCode_zero {n:Int} {OO:List (List Int)} {RR:List (List (List Int))} (h:ChOK n OO RR):chCode n OO RR=0:=(chCode_eq (ChC.of h)).symm
noncomputable def bothC (n:Int) (OO:List (List Int)) (RR:List (List (List Int))) (xl:List Int):Int :=
 if chCode n OO RR=0 then (if Ma.pchk xl=0 then (if (xl.length:Int)=n then 0 else 10) else Ma.pchk xl) else chCode n OO RR
theorem bothC_bad {n:Int} {OO:List (List Int)} {RR:List (List (List Int))} {xl:List Int} (h:¬ chCode n OO RR=0):bothC n OO RR xl=chCode n OO RR:=if_neg h
theorem bothC_perm {n:Int} {OO:List (List Int)} {RR:List (List (List Int))} {xl:List Int} (h:chCode n OO RR=0) (h2:¬ Ma.pchk xl=0):bothC n OO RR xl=Ma.pchk xl:=by unfold bothC; rw [if_pos h,if_neg h2]
theorem bothC_len {n:Int} {OO:List (List Int)} {RR:List (List (List Int))} {xl:List Int} (h:chCode n OO RR=0) (h2:Ma.pchk xl=0) (h3:¬ (xl.length:Int)=n):bothC n OO RR xl=10:=by unfold bothC; rw [if_pos h,if_pos h2,if_neg h3]
theorem bothC_ok {n:Int} {OO:List (List Int)} {RR:List (List (List Int))} {xl:List Int} (h:chCode n OO RR=0) (h2:Ma.pchk xl=0) (h3:(xl.length:Int)=n):bothC n OO RR xl=0:=by unfold bothC; rw [if_pos h,if_pos h2,if_pos h3]
theorem bothC_zero {n:Int} {OO:List (List Int)} {RR:List (List (List Int))} {xl:List Int} (h:bothC n OO RR xl=0):∃ (N:Nat) (O:List (List Nat)) (R:List (List (List Nat))) (x:List Nat),n=((N:Nat):Int)∧1≤N∧N≤64∧OO=O.map Ma.ofN∧RR=R.map (List.map Ma.ofN)∧IsChain N (Gr N (·∈R.flatten)) O R∧IsG N (Gr N (·∈R.flatten))∧xl=Ma.ofN x∧Gd N x:=by
 by_cases h1:chCode n OO RR=0
 ·by_cases h2:Ma.pchk xl=0
  ·by_cases h3:(xl.length:Int)=n
   ·obtain ⟨N,O,R,rfl,a1,a2,a3,a4,a5,a6⟩:=chCode_ok h1
    obtain ⟨x,rfl,hx⟩:=Ma.okL_ofN (Ma.pchk_zero h2).2.2;rw [Ma.len_ofN] at h3;exact ⟨N,O,R,x,rfl,a1,a2,a3,a4,a5,Gr.isG a6,rfl,hx,by omega⟩
   ·rw [bothC_len h1 h2 h3] at h; cases h
  ·rw [bothC_perm h1 h2] at h; exact absurd h h2
 ·rw [bothC_bad h1] at h; exact absurd h h1
def unN (l:List Int):List Nat:=l.map Int.toNat
theorem unN_ofN (l:List Nat):unN (Ma.ofN l)=l:=by
 unfold unN Ma.ofN;rw [List.map_map];exact (List.map_congr_left fun x _=>Int.toNat_natCast x).trans (List.map_id _)
theorem unN_map (l:List (List Nat)):(l.map Ma.ofN).map unN=l:=by
 rw [List.map_map];exact (List.map_congr_left fun x _=>unN_ofN x).trans (List.map_id _)
theorem unN_map2 (l:List (List (List Nat))):(l.map (List.map Ma.ofN)).map (List.map unN)=l:=by
 rw [List.map_map];exact (List.map_congr_left fun x _=>unN_map x).trans (List.map_id _)
end Go.Proofs.YthehbckogieimaaGreat

namespace Go.Proofs.YthehbckogieimaaGreat
open Go.RowKit
open Go.Proofs
open Go.Proofs.Ob
open Go.Proofs.Cm (Gd)
attribute [local irreducible] Go.Calls Go.wpList
theorem Zecl0 (args:Array Value) (w:World):(callFunc 42 args).run Tryz.prog w=.ok (.enter 42 args) w:=by kernel_rfl
theorem chCheck_c {n:Int} {ov rv:Value} {OO:List (List Int)} {RR:List (List (List Int))} {w:World} (h:ChEqR w ov rv OO RR) :
  Calls Tryz.prog 42 #[.agg #[.int .i64 n,ov,rv]] w fun e w'=>e=.returned (.int .i64 (chCode n OO RR))∧Below w.heap.size w w':=by
 refine (chCheck_any h).mono ?_;rintro e w' ⟨c,rfl,h1,h2⟩;exact ⟨by rw [chCode_eq h1],h2⟩
end Go.Proofs.YthehbckogieimaaGreat

set_option linter.unusedVariables false
namespace Go.Proofs.YthehbckogieimaaGreat
open Go.RowKit
open Go.Proofs
open Go.Proofs.Ob
open Go.Shelf
attribute [local irreducible] Go.Calls Go.wpList
def MK (tc:Nat) (ov rv:Value) (z:Nat):Prop:=z=tc∨ov.ownBlock=some z∨rv.ownBlock=some z
theorem row_isCells {W:World} {B:Nat} {e:TypeId} {size:Nat} {v:Value} {n:Nat} {xs:List Value} (h:W.ownsRow B e size v n xs):∀ k,v.ownBlock=some k→∃ o:Obj,W.heap[k]?=some o∧o.isCells=true:=fun k e1=>by
 obtain ⟨_,h3⟩:=h
 rcases h3 with ⟨h4,_⟩ | ⟨g,cap,cur,h4,_,h5,_⟩
 ·rw [h4] at e1; simp [Value.ownBlock] at e1
 ·rw [h4] at e1
  simp [Value.ownBlock] at e1;subst e1;exact ⟨_,h5,rfl⟩
theorem cell_isCells {W:World} {a:Addr} {v:Value} (h:W.cell? a=some v):∃ o:Obj,W.heap[a.block]?=some o∧o.isCells=true:=by
 unfold World.cell? at h
 cases e:W.heap[a.block]? with
 | none=>rw [e] at h; cases h
 | some o =>
  rw [e] at h;refine ⟨o,rfl,?_⟩
  cases o <;> simp at h <;> rfl
theorem ChR.isCells {B:Nat} {W:World} {tc:Nat} {c0 c1 c2 ov rv:Value} {O:List (List Int)} {R:List (List (List Int))} (h:ChR B W tc c0 c1 c2 ov rv O R):∀ z,MK tc ov rv z→∃ o:Obj,W.heap[z]?=some o∧o.isCells=true:=by
 obtain ⟨us,vs,h1,h2,_⟩:=h.own
 rintro z (e | e | e)
 ·subst e; exact cell_isCells h.tri.c0
 ·exact row_isCells h1 z e
 ·exact row_isCells h2 z e
end Go.Proofs.YthehbckogieimaaGreat

namespace Go.Proofs.YthehbckogieimaaGreat
open Go.RowKit
open Go.Proofs
open Go.Proofs.Ob
open Go.Proofs.Cm (Gd)
attribute [local irreducible] Go.Calls Go.wpList
def RwAt (w:World) (g n:Nat) (f:Nat→Int):Prop:=g<w.heap.size∧(∀ i,i<n→w.cell? ⟨g,i,none⟩=some (.int .i64 (f i)))∧∀ i,w.frozen? ⟨g,i,none⟩=false
theorem RwAt.congr {w:World} {g n:Nat} {f f':Nat→Int} (h:RwAt w g n f) (e:∀ i,i<n→f i=f' i):RwAt w g n f' :=
 ⟨h.1,fun i hi=>by rw [← e i hi]; exact h.2.1 i hi,h.2.2⟩
theorem RwAt.set {w:World} {g n:Nat} {f:Nat→Int} (h:RwAt w g n f) (k:Nat) (v:Int) (hk:k<n):RwAt (w.setCell ⟨g,k,none⟩ (.int .i64 v)) g n (fun i=>if i=k then v else f i):=by
 refine ⟨by simpa using h.1,fun i hi=>?_,fun i=>by rw [World.frozen?_setCell]; exact h.2.2 i⟩;show _=some (Value.int .i64 (if i=k then v else f i))
 by_cases e:i=k
 ·subst e
  rw [if_pos rfl];exact World.cell?_setCell_same (h:=h.2.1 i hi) ..
 ·rw [if_neg e,World.cell?_setCell_other (h:=by intro h; injection h with h1 h2; omega) ..]
  exact h.2.1 i hi
theorem RwAt.kp {M:Nat→Prop} {w w':World} {g n:Nat} {f:Nat→Int} (h:RwAt w g n f) (hk:Rg.Kp M w w') (hM:¬ M g):RwAt w' g n f :=
 ⟨Nat.lt_of_lt_of_le h.1 hk.size,fun i hi=>(World.cell?_of_block (a:=⟨g,i,none⟩) (hk.block g h.1 hM)).trans (h.2.1 i hi),fun i=>(World.frozen?_of_block (a:=⟨g,i,none⟩) (hk.block g h.1 hM)).trans (h.2.2 i)⟩
theorem RwAt.below {w w':World} {g n:Nat} {f:Nat→Int} (h:RwAt w g n f) (hb:Below w.heap.size w w'):RwAt w' g n f:=h.kp (M:=fun _=>False) (Rg.Kp.of_below hb) id
theorem RwAt.np {w:World} {g n cap:Nat} {f:Nat→Int} (h:RwAt w g n f) (l:List Nat) (hl:l.length=n) (hc:n≤cap) (hm:cap≤maxLen) (hn:n≤1000) (e:∀ i (hi:i<l.length),f i=((l[i]:Nat):Int)):Rg.NP w (.slice (some ⟨g,0,none⟩) n cap) l:=by
 refine Rg.Ints.mk (by simp [Ma.ofN,hl]) h.1 (by simp [Ma.ofN]; omega) hm (by simp [Ma.ofN]; omega) fun i hi=>?_
 have hi':i<l.length:=by simpa [Ma.ofN] using hi
 rw [Nat.zero_add,h.2.1 i (by omega),e i hi'];simp [Ma.ofN]
end Go.Proofs.YthehbckogieimaaGreat

namespace Go.Proofs.YthehbckogieimaaGreat
open Go.RowKit
open Go.Proofs
open Go.Proofs.Ob
open Go.Proofs.Cm (Gd Gr IsChain)
attribute [local irreducible] Go.Calls Go.wpList
theorem made_rowH (w:World) (n:Nat):RwAt (w.alloc (.cells (madeCells #[.int .i64 0] n) 3)) w.heap.size n (fun _=>0):=by
 have h:=World.rowIs_made w (.int .i64 0) n 3;exact ⟨by simp,fun i hi=>h.cell hi,fun i=>h.frozen i⟩
theorem rwat_ints {w:World} {g n cap:Nat} {f:Nat→Int} (h:RwAt w g n f) (hc:n≤cap) (hm:cap≤maxLen) (hn:n≤1000):Rg.Ints w (.slice (some ⟨g,0,none⟩) n cap) ((List.range n).map f):=by
 refine Rg.Ints.mk (by simp) h.1 (by simpa using hc) hm (by simp; omega) fun i hi=>?_
 have hi':i<n:=by simpa using hi
 rw [Nat.zero_add,h.2.1 i hi'];simp
theorem RowP.pushF {B:Nat} {W:World} {v:Value} {ll:List (List Int)} (h:RowP B W v ll) (hB:B≤W.heap.size) {u:Value} {l:List Int} (hv:Rg.FI (PG B W v) W u l) (hue:∃ a n c,u=.slice a n c) (hn:ll.length<1000000) (ty:TypeId) :
  ∃ a c X,(Builtin.append_ #[22,22] ty #[v,.slice (some ⟨W.heap.size,0,none⟩) 1 1]).run Tryz.prog (W.alloc (.cells #[u] 51))=.ok (.slice a (ll.length+1) c) X∧RowP B X (.slice a (ll.length+1) c) (ll++[l])∧(∀ {B':Nat} {W0:World},B'≤B→Below B' W0 W→Below B' W0 X):=by
 obtain ⟨us,h1,h2⟩:=h.own;have hb:Below W.heap.size W (W.alloc (.cells #[u] 51)):=(Below.refl _ _).alloc (Nat.le_refl _) _;obtain ⟨ua,un,uc,hue⟩:=hue;have hlt:=fun k e=>(h1.lt k e).2;obtain ⟨v',X,r1,r2,r3,r4,a,c,rfl⟩:=app_run (P:=Tryz.prog) slPerms ty (Rg.row_below h1 hb) (Nat.le_trans hB hb.size) W.heap.size 1 (u:=u) (by rw [Rg.cellNew]; rfl) (by rw [hue]; rfl) hn;have hk1:Rg.Kp (fun _=>False) W (W.alloc (.cells #[u] 51)):=Rg.Kp.of_below hb
 have hsz:(W.alloc (.cells #[u] 51)).heap.size=W.heap.size+1:=by simp
 have hk:Rg.Kp (fun k=>v.ownBlock=some k) W X:=Rg.Kp.trans (M:=fun k=>v.ownBlock=some k) (hk1.weak fun _=>False.elim) (Rg.Kp.of_grown r3 fun _ e=>e) (fun _ _ e=>e);have hg:∀ k,PG B W v k→¬ v.ownBlock=some k:=fun k g=>g.2.2
 have hm:∀ k,PG B W v k→PG B X (.slice a (ll.length+1) c) k:=fun k g=>by
  refine ⟨g.1,Nat.lt_of_lt_of_le g.2.1 hk.size,fun e=>?_⟩
  rcases r4 with r4 | r4
  ·rw [r4] at e; exact g.2.2 e
  ·rw [r4] at e; injection e with e; have:=g.2.1; omega
 refine ⟨a,c,X,r1,⟨us++[u],by rw [List.length_append]; exact r2,(FElts.snoc (h2.kp hk hg) (hv.kp hk hg)).mono hm⟩,fun {B' W0} hB' hb0=>?_⟩;refine (hb0.trans ⟨hk.os,hk.tape,hk.output,hk.size,fun k hk'=>hk.block k ?_ fun e=>?_⟩)
 ·have:=hb0.size; omega
 ·have:=(h1.lt k e).1; omega
def bhY (n:Nat) (x:List Int):List Int:=(x.drop n).map (fun q=>q - ((n:Nat):Int))
def bhL (n:Nat) (R:List (List (List Int))):List (List Int):=((R.drop n).flatten).map (bhY n)
def bhT (n:Nat) (R:List (List (List Int))) (i:Nat):List (List Int):=(((R.drop n).take i).flatten).map (bhY n)
theorem bhT_all {n:Nat} {R:List (List (List Int))} {i:Nat} (h:R.length≤n+i):bhT n R i=bhL n R:=by
 unfold bhT bhL;rw [List.take_of_length_le (by rw [List.length_drop]; omega)]
theorem bhT_next {n:Nat} {R:List (List (List Int))} {i:Nat} (h:n+i<R.length):bhT n R (i+1)=bhT n R i++R[n+i].map (bhY n):=by
 unfold bhT
 have h2:i<(R.drop n).length:=by rw [List.length_drop]; omega
 have e:(R.drop n)[i]=R[n+i]:=by simp
 rw [List.take_add_one,List.getElem?_eq_getElem h2,e,List.flatten_append,List.map_append];simp
theorem bhT_len {n:Nat} {R:List (List (List Int))} (hl:R.length≤64) (h:∀ r∈R,r.length≤64) (i:Nat):(bhT n R i).length≤4096:=by
 unfold bhT;rw [List.length_map]
 have key:∀ (T:List (List (List Int))),(∀ r∈T,r.length≤64)→T.flatten.length≤T.length*64:=by
  intro T
  induction T with
  | nil=>intro _; simp
  | cons a T ih =>
   intro hT;rw [List.flatten_cons,List.length_append,List.length_cons];have:=ih (fun r hr=>hT r (List.mem_cons_of_mem _ hr));have:=hT a (List.mem_cons_self ..);omega
 have h1:=key ((R.drop n).take i) (fun r hr=>h r (List.mem_of_mem_drop (List.mem_of_mem_take hr)))
 have h2:((R.drop n).take i).length≤64:=by rw [List.length_take,List.length_drop]; omega
 have h3:((R.drop n).take i).length*64≤64*64:=Nat.mul_le_mul_right 64 h2;omega
theorem bhY_range {n m:Nat} {x:List Int} (h:x.length=n+m):(List.range m).map (fun t=>x.getD (n+t) 0 - ((n:Nat):Int))=bhY n x:=by
 refine List.ext_getElem (by simp [bhY,h]) fun i h1 h2=>?_;simp only [List.length_map,List.length_range] at h1;simp only [bhY,List.getElem_map,List.getElem_range,List.getElem_drop];rw [List.getD_eq_getElem?_getD,List.getElem?_eq_getElem (by omega)];rfl
structure RpF (n m:Nat) (R:List (List (List Int))):Prop where
 len:R.length=n+m
 r64:∀ r∈R,r.length≤64
 xl:∀ r∈R,∀ x∈r,∃ z:List Nat,x=Ma.ofN z∧Gd (n+m) z
theorem HomG.reps {d e:Int} {LL M:List (List Int)} {n m:Nat} {A B:List (List Nat)} (h:HomG d e LL M n m A B) {N:Nat} {gs:List (List Nat)} (hp:PcF (d+e) (prL LL M) N gs):RpF n m (pR (d+e) (prL LL M)):=by
 have hN:N=n+m:=by have:=hp.dn; have:=h.dn; have:=h.em; omega
 subst hN
 have hgs:gs=prN A B:=by
  have e1:=hp.lg;rw [h.la,h.mb,prL_ofN] at e1;exact (map_ofN_inj e1).symm
 have hg:∀ s∈gs,Gd (n+m) s:=by rw [hgs]; exact mem_prN h.ga h.gb
 have hH:=Cm.Gr.isG hg
 have key:∀ r∈(pOR (d+e) (prL LL M)).2,∃ i,i<n+m∧(pOR (d+e) (prL LL M)).2.getD i []=r:=fun r hr=>by
  obtain ⟨i,hi,rfl⟩:=List.getElem_of_mem hr;exact ⟨i,by rw [← hp.ch.lenR]; exact hi,by rw [List.getD_eq_getElem?_getD,List.getElem?_eq_getElem hi]; rfl⟩
 refine ⟨hp.lenR,fun r hr=>?_,fun r hr x hx=>?_⟩
 ·obtain ⟨r0,hr0,rfl⟩:=List.mem_map.1 hr
  obtain ⟨i,hi,rfl⟩:=key r0 hr0;rw [List.length_map,hp.ch.len i hi];have:=chain_len hH hp.ch hi;have:=h.nm;omega
 ·obtain ⟨r0,hr0,rfl⟩:=List.mem_map.1 hr
  obtain ⟨z,hz,rfl⟩:=List.mem_map.1 hx;obtain ⟨i,hi,rfl⟩:=key r0 hr0;obtain ⟨k,hk,rfl⟩:=List.getElem_of_mem hz;refine ⟨_,rfl,?_⟩;have h5:=(hp.ch.rep i k hi (by rw [← hp.ch.len i hi]; exact hk)).1.1.1;rw [List.getD_eq_getElem?_getD,List.getElem?_eq_getElem hk] at h5;exact hH.gd _ h5
def BhPost (e:Int) (ll:List (List Int)) (w:World) (ed:Ending) (w':World):Prop:=∃ cv,ed=.returned cv∧ChAnsF w.heap.size w' e ll cv (mkchk e ll)∧Below w.heap.size w w'
theorem ChAnsF.mono {B B':Nat} {w:World} {d:Int} {ll:List (List Int)} {cv:Value} {c:Int} (h:ChAnsF B w d ll cv c) (hB:B'≤B):ChAnsF B' w d ll cv c:=by
 rcases h with h | ⟨h0,n,gs,h1,h2,h3,h4,ov,rv,O,R,h5,h6,h7,h8⟩
 ·exact .inl h
 ·exact .inr ⟨h0,n,gs,h1,h2,h3,h4,ov,rv,O,R,h5,FRows.mono h6 (fun z hz=>Nat.le_trans hB hz),FRows2.mono h7 (fun z hz=>Nat.le_trans hB hz),h8⟩
theorem ChAnsF.below {B:Nat} {w w':World} {d:Int} {ll:List (List Int)} {cv:Value} {c:Int} (h:ChAnsF B w d ll cv c) (hb:Below w.heap.size w w'):ChAnsF B w' d ll cv c:=h.kp (M:=fun _=>False) (Rg.Kp.of_below hb) (fun _ e=>e.elim)
theorem fill_step {m i:Nat} {X:Nat→Int} {v:Int} (hv:v=X i):∀ t,t<m→(if t=i then v else (if t<i then X t else 0))=(if t<i+1 then X t else 0):=fun t _=>by
 by_cases e:t=i
 ·subst e; rw [if_pos rfl,if_pos (by omega),hv]
 ·rw [if_neg e]
  by_cases e2:t<i
  ·rw [if_pos e2,if_pos (by omega)]
  ·rw [if_neg e2,if_neg (by omega)]
theorem behind_any {d e:Int} {gv hv:Value} {oa:Option Addr} {oc:Nat} {ra:Option Addr} {rc:Nat} {L M:List (List Int)} {n m:Nat} {A B:List (List Nat)} {pb:Nat} {w:World} (h:PrAt w pb d e gv hv oa oc ra rc L M) (hm:HomG d e L M n m A B) :
  Calls Tryz.prog 132 #[.pointer (some ⟨pb,0,none⟩)] w (BhPost e (bhL n (pR (d+e) (prL L M))) w):=by
 obtain ⟨ga,gc,rfl,-⟩:=h.rg.shape;obtain ⟨ha,hc,rfl,-⟩:=h.rh.shape;obtain ⟨N,gs,hpc⟩:=h.pc;have hrp:=hm.reps hpc;have hm1:=hm.m1;have hnm:=hm.nm;have hrl:n+m=(pR (d+e) (prL L M)).length:=hrp.len.symm
 have hcap:(pR (d+e) (prL L M)).length≤rc:=by
  obtain ⟨us,⟨a,c,e1,e2,_⟩,e3,_⟩:=h.ch.2
  injection e1 with _ e4 e5
  omega
 obtain ⟨rb,ro,e1,-⟩:=h.ch.2.at' (k:=0) (by omega);subst e1;obtain ⟨RR,hRR⟩:∃ l,Hid (pR (d+e) (prL L M)=l):=⟨_,ι rfl⟩;rw [hRR.out] at hrp hcap hrl ⊢;have PA:=ι h;have HRP:=ι hrp;have HRL:=ι hrl.symm;have HCAP:=ι hcap;have HM1:=ι hm1;have HNM:=ι hnm;have HN1:=ι hm.n1;have HDN:=ι hm.dn;have HEM:=ι hm.em;have HR2:=ι (show Rows2 w (.slice (some ⟨rb,ro,none⟩) RR.length rc) RR by have h5:=h.ch.2; rw [hRR.out] at h5; exact h5);have K:=ι (Below.refl w.heap.size w);clear h hm hpc hrp hcap hrl
 go_enter Tryz.func132,Tryz.ntmps132
 go_upto_region 0 with (fail);refine Rg.wl ?_;have hnew:=Tri.new w (.int .i64 0) (.slice none 0 0) (.slice none 0 0);refine Rg.lr 2 (exec_allocC rfl) ?_;go_frame;have hb:=(Below.refl w.heap.size w).alloc (Nat.le_refl _) (.cells #[.int .i64 0,.slice none 0 0,.slice none 0 0] 54);generalize w.alloc (.cells #[.int .i64 0,.slice none 0 0,.slice none 0 0] 54)=w1 at *;replace PA:=ι (PA.out.below hb);replace HR2:=ι (HR2.out.below hb);replace K:=ι (Rg.acc K.out hb);clear hb;have FT:=ι hnew;clear hnew;go_upto_region 1 with (fail);refine Rg.wl ?_;refine Rg.lm 13 (.pointer (some ⟨pb,0,none⟩)) ?_;go_frame;refine Rg.lr 14 (exec_nil _ rfl rfl) ?_;go_frame;refine Rg.lr 15 (exec_field _ rfl rfl (prF1 _ _)) ?_;go_frame;refine Rg.lr 16 (exec_field _ rfl rfl (grF3_0 _ _)) ?_;go_frame;refine Rg.lr 17 (Rg.exec_load (v:=.int .i64 ((n:Nat):Int)) _ _ rfl ⟨pb,3,none⟩ rfl (run_loadInt (show _ from by have h5:=PA.out.c3; rw [HDN.out] at h5; exact h5))) ?_;go_frame
 refine Rg.la 3 (.int .i64 ((n:Nat):Int)) ?_;go_frame;go_upto_region 2 with (fail);refine Rg.wl ?_;refine Rg.la 4 (.slice none 0 0) ?_;go_frame;go_upto_region 3 with (fail);refine Rg.wl ?_;refine Rg.lm 18 (.pointer (some ⟨pb,0,none⟩)) ?_;go_frame;refine Rg.lr 19 (exec_nil _ rfl rfl) ?_;go_frame;refine Rg.lr 20 (exec_field _ rfl rfl (prF0 _ _)) ?_;go_frame;refine Rg.lr 21 (exec_field _ rfl rfl (chF2 _ _)) ?_;go_frame;refine Rg.lr 22 (Rg.exec_load (v:=.slice (some ⟨rb,ro,none⟩) RR.length rc) _ _ rfl ⟨pb,2,none⟩ rfl (Rg.run_loadSl _ _ Tryz.underlying52 (show _ from by have h5:=PA.out.c2; rw [hRR.out] at h5; exact h5))) ?_;go_frame;refine Rg.lm 23 (.int .i64 ((n:Nat):Int)) ?_;go_frame;refine Rg.lr 24 (exec_sliceLoP _ _ rfl rfl rfl (run_sliceLoP _ _ _ _ _ _ (by have:=HRL.out; have:=HM1.out; omega) HCAP.out)) ?_;go_frame;refine Rg.lr 25 (exec_len _ _ _ rfl Tryz.underlying52 _ _ _ rfl) ?_;go_frame
 refine Rg.lm 26 (.int .i64 ((0:Nat):Int)) ?_;go_frame;have K1:=ι (Below.refl w1.heap.size w1);obtain ⟨lo,hlo⟩:∃ l,Hid (RR.length - n=l):=⟨_,ι rfl⟩;rw [hlo.out];have HLO:=ι (show lo=m by have:=HRL.out; have:=hlo.out; omega);have RP:=ι (show RowP w1.heap.size w1 (.slice none 0 0) (bhT n RR 0) from RowP.nil _ _);have HTL:=ι (fun i=>bhT_len (n:=n) (i:=i) (by have:=HRL.out; have:=HNM.out; omega) HRP.out.r64);go_wp2
 go_loopw [4,26] (fun tv iv wr=>∃ i:Nat,iv=.int .i64 ((i:Nat):Int)∧i≤lo∧Hid (RowP w1.heap.size wr tv (bhT n RR i))∧Hid (Below w1.heap.size w1 wr)) (fun _ iv _=>lo - (intOf iv).toNat)
 case atStart=>exact ⟨0,rfl,Nat.zero_le _,RP,K1⟩
 case round =>
  clear K1 RP;obtain ⟨i,rfl,hi,RP,K1⟩:=hrel;generalize wr=wd at *;obtain ⟨ta,tc,rfl⟩:=RP.out.shape
  have hlm:lo≤64:=by have:=HLO.out; have:=HNM.out; omega
  by_cases hil:i<lo
  case pos =>
   have HIL:=ι hil;have HNI:=ι (show n+i<RR.length by have:=HRL.out; have:=HLO.out; omega);obtain ⟨rb',ro',er,hrb,u,hcu,hu⟩:=HR2.out.at' HNI.out
   injection er with er
   injection er with e5 e6
   subst e5 e6;obtain ⟨r,hr⟩:∃ r:List (List Int),Hid (RR[n+i]'HNI.out=r):=⟨_,ι rfl⟩;rw [hr.out] at hu;obtain ⟨ua,uc,rfl,-⟩:=hu.shape;have CU:=ι (CL.mk (show w1.cell? ⟨rb,ro+n+i,none⟩=_ by rw [Nat.add_assoc]; exact hcu) hrb);have HU:=ι hu
   have hmem:r∈RR:=by rw [← hr.out]; exact List.getElem_mem _
   have HR64:=ι (HRP.out.r64 r hmem);have HXS:=ι (HRP.out.xl r hmem);have HTN:=ι (show bhT n RR (i+1)=bhT n RR i++r.map (bhY n) by rw [bhT_next HNI.out,hr.out]);clear hcu hrb hu hmem;go_upto_region 4 with (fail);refine Rg.wl ?_;refine Rg.lr 27 (exec_bin (R:=.bool true) .lss _ _ _ rfl rfl rfl (b_lss _ Rg.dT)) ?_;go_frame;go_upto_region 5 with (fail);refine Rg.wl ?_;refine Rg.lr 28 (exec_indexS slPermss _ _ rfl rb (ro+n) (lo) (rc - n) (i) rfl rfl HIL.out) ?_;go_frame;refine Rg.lr 29 (Rg.exec_load (v:=.slice ua r.length uc) _ _ rfl ⟨rb,ro+n+i,none⟩ rfl (Rg.run_loadSl _ _ Tryz.underlying22 ((Below.cell (p:=⟨rb,ro+n+i,none⟩) K1.out CU.out.lt).trans CU.out.cell))) ?_;go_frame;refine Rg.la 6 (.slice ua r.length uc) ?_;go_frame;go_upto_region 6 with (fail);refine Rg.wl ?_;refine Rg.lm 30 (.slice ua r.length uc) ?_;go_frame;refine Rg.lr 31 (exec_len _ _ _ rfl Tryz.underlying22 _ _ _ rfl) ?_;go_frame
   refine Rg.lm 32 (.int .i64 ((0:Nat):Int)) ?_;go_frame;have RP2:=ι (show RowP w1.heap.size wd (.slice ta (bhT n RR i).length tc) (bhT n RR i++(r.take 0).map (bhY n)) by rw [List.take_zero,List.map_nil,List.append_nil]; exact RP.out);clear RP;go_wp2
   go_loopw [4,32] (fun tv kv wr=>∃ k:Nat,kv=.int .i64 ((k:Nat):Int)∧k≤r.length∧Hid (RowP w1.heap.size wr tv (bhT n RR i++(r.take k).map (bhY n)))∧Hid (Below w1.heap.size w1 wr)) (fun _ kv _=>r.length - (intOf kv).toNat)
   case atStart=>exact ⟨0,rfl,Nat.zero_le _,RP2,K1⟩
   case round =>
    clear K1 RP2;obtain ⟨k,rfl,hk,RP,K1⟩:=hrel;generalize wr=we at *;obtain ⟨ta,tc,rfl⟩:=RP.out.shape;have hr64:r.length≤64:=HR64.out
    by_cases hkl:k<r.length
    case neg =>
     have HTK:=ι (show bhT n RR i++(r.take k).map (bhY n)=bhT n RR (i+1) by rw [HTN.out,List.take_of_length_le (by omega)]);rw [HTK.out] at RP ⊢;go_upto_region 7 with (fail);refine Rg.wl ?_;refine Rg.lr 33 (exec_bin (R:=.bool false) .lss _ _ _ rfl rfl rfl (b_lss _ Rg.dF)) ?_;go_frame;go_upto_region 17 with (fail);refine Rg.wl ?_;refine Rg.lr 64 (exec_bin (R:=.int .i64 (((i+1):Nat):Int)) .add _ _ _ rfl rfl rfl (b_add _ (by omega) (by omega))) ?_;go_frame;refine Rg.lm 26 (.int .i64 (((i+1):Nat):Int)) ?_;go_frame;go_wp2
     go_roundw
     case rel=>exact ⟨i+1,by go_num,HIL.out,RP,K1⟩
     case measure=>simp [intOf]; have:=HIL.out; omega
    case pos =>
     have HKL:=ι hkl;obtain ⟨ub,uo,xa,xc,e5,hub,huc,hui⟩:=rowsI_get HU.out hkl;subst e5;obtain ⟨x,hx⟩:∃ x:List Int,Hid (r[k]'hkl=x):=⟨_,ι rfl⟩;rw [hx.out] at huc hui;obtain ⟨z,hz,gz⟩:=HXS.out x (by rw [← hx.out]; exact List.getElem_mem _);have HXL:=ι (show x.length=n+m by rw [hz,Ma.len_ofN]; exact gz.2)
     have HXB:=ι (show ∀ t,t<n+m→∃ q:Nat,x.getD t 0=((q:Nat):Int)∧q<n+m from fun t ht=>by
      have hl:t<z.length:=by rw [gz.2]; exact ht
      refine ⟨z[t],?_,?_⟩
      ·rw [hz,List.getD_eq_getElem?_getD,List.getElem?_eq_getElem (by rw [Ma.len_ofN]; exact hl),Option.getD_some,Ma.get_ofN]
      ·have:=gz.1.1 _ (List.getElem_mem hl); have:=gz.2; omega)
     have CX:=ι (CL.mk huc hub);have XI:=ι hui;have HTS:=ι (show (r.take (k+1)).map (bhY n)=(r.take k).map (bhY n)++[bhY n x] by rw [List.take_add_one,List.getElem?_eq_getElem hkl,hx.out,List.map_append]; rfl);obtain ⟨tl,htl⟩:∃ l,Hid (bhT n RR i++(r.take k).map (bhY n)=l):=⟨_,ι rfl⟩
     have HTL9:=ι (show tl.length<1000000 by
      rw [← htl.out,List.length_append,List.length_map,List.length_take];have:=HTL.out i
      omega)
     have HTS2:=ι (show bhT n RR i++(r.take (k+1)).map (bhY n)=tl++[bhY n x] by rw [HTS.out,← List.append_assoc,htl.out]);rw [htl.out] at RP ⊢
     have hm64:m≤64:=by have:=HNM.out; omega
     clear hub huc hui hz gz;go_upto_region 7 with (fail);refine Rg.wl ?_;refine Rg.lr 33 (exec_bin (R:=.bool true) .lss _ _ _ rfl rfl rfl (b_lss _ Rg.dT)) ?_;go_frame;go_upto_region 8 with (fail);refine Rg.wl ?_;refine Rg.lr 34 (exec_indexS slPerms _ _ rfl ub (uo) (r.length) uc (k) rfl rfl HKL.out) ?_;go_frame;refine Rg.lr 35 (Rg.exec_load (v:=.slice xa x.length xc) _ _ rfl ⟨ub,uo+k,none⟩ rfl (Rg.run_loadSl _ _ Tryz.underlying51 ((Below.cell (p:=⟨ub,uo+k,none⟩) K1.out CX.out.lt).trans CX.out.cell))) ?_;go_frame;refine Rg.la 8 (.slice xa x.length xc) ?_;go_frame;go_upto_region 9 with (fail);refine Rg.wl ?_;refine Rg.lm 36 (.pointer (some ⟨pb,0,none⟩)) ?_;go_frame;refine Rg.lr 37 (exec_nil _ rfl rfl) ?_;go_frame;refine Rg.lr 38 (exec_field _ rfl rfl (prF2 _ _)) ?_;go_frame;refine Rg.lr 39 (exec_field _ rfl rfl (grF5_0 _ _)) ?_;go_frame;refine Rg.lr 40 (Rg.exec_load (v:=.int .i64 ((m:Nat):Int)) _ _ rfl ⟨pb,5,none⟩ rfl (run_loadInt ((Below.cell (p:=⟨pb,5,none⟩) K1.out PA.out.lt).trans (show _ from by have h5:=PA.out.c5; rw [HEM.out] at h5; exact h5)))) ?_;go_frame
     refine Rg.lr 41 (exec_makeSlice _ _ _ rfl _ _ rfl rfl (mkPerm m (by omega) we)) ?_;go_frame;refine Rg.la 9 (.slice (some ⟨we.heap.size,0,none⟩) m m) ?_;go_frame;have hrw:=made_rowH we m;have hbw:Below we.heap.size we (we.alloc (.cells (madeCells #[.int .i64 0] m) 3)):=(Below.refl _ _).alloc (Nat.le_refl _) _;obtain ⟨gb,hgb⟩:∃ b,we.heap.size=b:=⟨_,rfl⟩;have HGB:=ι (show we.heap.size≤gb from Nat.le_of_eq hgb);rw [hgb] at hrw ⊢;generalize we.alloc (.cells (madeCells #[.int .i64 0] m) 3)=wf at *;have RW:=ι (show RwAt wf gb m (fun t=>if t<0 then x.getD (n+t) 0 - ((n:Nat):Int) else 0) from hrw.congr (fun i _=>by rw [if_neg (Nat.not_lt_zero _)]));have KE:=ι hbw;have HGW:=ι (show gb=we.heap.size from hgb.symm);clear hrw hbw hgb;go_upto_region 10 with (fail);refine Rg.wl ?_;refine Rg.lm 42 (.slice (some ⟨gb,0,none⟩) m m) ?_;go_frame;refine Rg.lr 43 (exec_len _ _ _ rfl Tryz.underlying51 _ _ _ rfl) ?_;go_frame
     refine Rg.lm 44 (.int .i64 ((0:Nat):Int)) ?_;go_frame;go_wp2
     go_loopw [44] (fun iv wr=>∃ t:Nat,iv=.int .i64 ((t:Nat):Int)∧t≤m∧Hid (RwAt wr gb m (fun s=>if s<t then x.getD (n+s) 0 - ((n:Nat):Int) else 0))∧Hid (Below we.heap.size we wr)) (fun iv _=>m - (intOf iv).toNat)
     case atStart=>exact ⟨0,rfl,Nat.zero_le _,RW,KE⟩
     case round =>
      clear RW KE;obtain ⟨t,rfl,ht,RW,KE⟩:=hrel;generalize wr=wg at *;have KX:=ι (Rg.acc K1.out KE.out)
      by_cases htm:t<m
      case pos =>
       have HTM:=ι htm;obtain ⟨q,hq,hqn⟩:=HXB.out (n+t) (by omega);have hnm:n+m≤64:=HNM.out;have hxl:x.length=n+m:=HXL.out;obtain ⟨a',c',e1,-,-,-,hs⟩:=XI.out.shape
       injection e1 with e2 _ e4
       subst e2 e4;obtain ⟨xb,xo,rfl,hxb,hxc⟩:=hs (by omega)
       have CQ:=ι (CL.mk (show w1.cell? ⟨xb,xo+(n+t),none⟩=some (.int .i64 ((q:Nat):Int)) by
        rw [hxc (n+t) (by omega),← hq,List.getD_eq_getElem?_getD,List.getElem?_eq_getElem (by omega)]; rfl) hxb)
       clear hs hxb hxc;go_upto_region 11 with (fail);refine Rg.wl ?_;refine Rg.lr 45 (exec_bin (R:=.bool true) .lss _ _ _ rfl rfl rfl (b_lss _ Rg.dT)) ?_;go_frame;go_upto_region 12 with (fail);refine Rg.wl ?_;refine Rg.lm 46 (.int .i64 ((t:Nat):Int)) ?_;go_frame;refine Rg.la 10 (.int .i64 ((t:Nat):Int)) ?_;go_frame;go_upto_region 13 with (fail);refine Rg.wl ?_;refine Rg.lm 47 (.slice (some ⟨gb,0,none⟩) m m) ?_;go_frame;refine Rg.lm 48 (.int .i64 ((t:Nat):Int)) ?_;go_frame;refine Rg.lm 49 (.slice (some ⟨xb,xo,none⟩) x.length xc) ?_;go_frame;refine Rg.lm 50 (.int .i64 ((n:Nat):Int)) ?_;go_frame;refine Rg.lm 51 (.int .i64 ((t:Nat):Int)) ?_;go_frame;refine Rg.lr 52 (exec_bin (R:=.int .i64 (((n+t):Nat):Int)) .add _ _ _ rfl rfl rfl (b_add _ (by omega) (by omega))) ?_;go_frame;refine Rg.lr 53 (exec_indexS slPerm _ _ rfl xb (xo) (x.length) xc ((n+t)) rfl rfl (by omega)) ?_;go_frame
       refine Rg.lr 54 (Rg.exec_load (v:=.int .i64 ((q:Nat):Int)) _ _ rfl ⟨xb,xo+(n+t),none⟩ rfl (run_loadInt ((Below.cell (p:=⟨xb,xo+(n+t),none⟩) KX.out CQ.out.lt).trans CQ.out.cell))) ?_;go_frame;refine Rg.lm 55 (.int .i64 ((n:Nat):Int)) ?_;go_frame;refine Rg.lr 56 (exec_bin (R:=.int .i64 (((q:Nat):Int) - ((n:Nat):Int))) .sub _ _ _ rfl rfl rfl (b_sub _ (by omega) (by omega))) ?_;go_frame;refine Rg.lr 57 (exec_indexS slPerm _ _ rfl gb (0) (m) m (t) rfl rfl HTM.out) ?_;go_frame;refine Rg.list_skip none rfl rfl (Rg.exec_store _ _ _ rfl _ rfl _ rfl (run_storeInt (((q:Nat):Int) - ((n:Nat):Int)) (by rw [Nat.zero_add]; exact RW.out.2.1 t HTM.out) (by rw [Nat.zero_add]; exact RW.out.2.2 t))) ?_;go_frame
       have hrw:RwAt (wg.setCell ⟨gb,0+t,none⟩ (.int .i64 (((q:Nat):Int) - ((n:Nat):Int)))) gb m (fun s=>if s<t+1 then x.getD (n+s) 0 - ((n:Nat):Int) else 0):=by
        rw [Nat.zero_add];exact (RW.out.set t _ HTM.out).congr (fill_step (X:=fun s=>x.getD (n+s) 0 - ((n:Nat):Int)) (by rw [hq]))
       have hkw:=KE.out.setCell (p:=⟨gb,0+t,none⟩) HGB.out (.int .i64 (((q:Nat):Int) - ((n:Nat):Int)));generalize wg.setCell ⟨gb,0+t,none⟩ (.int .i64 (((q:Nat):Int) - ((n:Nat):Int)))=wh at *;have RW2:=ι hrw;have KE2:=ι hkw;clear hrw hkw;go_upto_region 14 with (fail);refine Rg.wl ?_;refine Rg.lr 58 (exec_bin (R:=.int .i64 (((t+1):Nat):Int)) .add _ _ _ rfl rfl rfl (b_add _ (by omega) (by omega))) ?_;go_frame;refine Rg.lm 44 (.int .i64 (((t+1):Nat):Int)) ?_;go_frame;go_wp2
       go_roundw
       case rel=>exact ⟨t+1,by go_num,HTM.out,RW2,KE2⟩
       case measure=>simp [intOf]; have:=HTM.out; omega
      case neg =>
       have HYI:=ι (show Rg.Ints wg (.slice (some ⟨gb,0,none⟩) m m) (bhY n x) by
        have h5:=rwat_ints RW.out (Nat.le_refl _) (by unfold maxLen; omega:m≤maxLen) (by omega)
        have e5:(List.range m).map (fun s=>if s<t then x.getD (n+s) 0 - ((n:Nat):Int) else 0)=bhY n x:=by
         rw [← bhY_range HXL.out];refine List.map_congr_left fun s hs=>?_;rw [if_pos (by have:=List.mem_range.1 hs; omega)]
        rw [e5] at h5
        exact h5)
       have RPX:=ι (RP.out.below KE.out);have HPG:=ι (show PG w1.heap.size wg (.slice ta tl.length tc) gb from ⟨by have:=HGW.out; have:=K1.out.size; omega,RW.out.1,fun e=>by have:=(RP.out.lt gb e).2; have:=HGW.out; omega⟩);go_upto_region 11 with (fail);refine Rg.wl ?_;refine Rg.lr 45 (exec_bin (R:=.bool false) .lss _ _ _ rfl rfl rfl (b_lss _ Rg.dF)) ?_;go_frame;go_upto_region 15 with (fail);refine Rg.wl ?_;refine Rg.lm 59 (.slice ta tl.length tc) ?_;go_frame;refine Rg.lm 60 (.slice (some ⟨gb,0,none⟩) m m) ?_;go_frame;refine Rg.lr 61 (Rg.exec_buildSlice _ _ _ rfl (.slice (some ⟨gb,0,none⟩) m m) rfl (run_build1P wg _ ⟨_,_,_,rfl⟩)) ?_;go_frame;obtain ⟨a9,c9,X9,r1,r2,r3⟩:=RPX.out.pushF KX.out.size (Rg.FVals.of HYI.out (fun k e=>by simp [Value.ownBlock] at e; subst e; exact HPG.out)) ⟨_,_,_,rfl⟩ HTL9.out 22;refine Rg.lr 62 (Rg.exec_append _ _ _ rfl rfl rfl r1) ?_;go_frame
       refine Rg.la 4 (.slice a9 (tl.length+1) c9) ?_;go_frame;have K6:=ι (r3 (Nat.le_refl _) KX.out);have RP6:=ι (show RowP w1.heap.size X9 (.slice a9 (tl.length+1) c9) (bhT n RR i++(r.take (k+1)).map (bhY n)) by rw [HTS2.out]; exact r2);clear r1 r2 r3;go_upto_region 16 with (fail);refine Rg.wl ?_;refine Rg.lr 63 (exec_bin (R:=.int .i64 (((k+1):Nat):Int)) .add _ _ _ rfl rfl rfl (b_add _ (by omega) (by omega))) ?_;go_frame;refine Rg.lm 32 (.int .i64 (((k+1):Nat):Int)) ?_;go_frame;go_wp2
       go_roundw
       case rel=>exact ⟨k+1,by go_num,HKL.out,RP6,K6⟩
       case measure=>simp [intOf]; have:=HKL.out; omega
  case neg =>
   have HTE:=ι (show bhT n RR i=bhL n RR from bhT_all (by have:=HRL.out; have:=HLO.out; omega));have HBL:=ι (show (bhT n RR i).length≤4096 from HTL.out i);rw [HTE.out] at RP HBL ⊢;obtain ⟨BL,hBL⟩:∃ l,Hid (bhL n RR=l):=⟨_,ι rfl⟩;rw [hBL.out] at RP HBL ⊢;have HRW:=ι (FRows.rows (RP.out.frows (by have:=HBL.out; omega) (G:=fun _=>True) (fun _ _ _=>trivial)));have KT:=ι (show Below w.heap.size w wd from K.out.trans (K1.out.mono K.out.size));have FTD:=ι (FT.out.below K1.out);have PAD:=ι (PA.out.below K1.out);obtain ⟨mk,hmk⟩:∃ c,Hid (mkchk e BL=c):=⟨_,ι rfl⟩;go_upto_region 4 with (fail);refine Rg.wl ?_;refine Rg.lr 27 (exec_bin (R:=.bool false) .lss _ _ _ rfl rfl rfl (b_lss _ Rg.dF)) ?_;go_frame;clear K K1 FT PA;go_upto_region 18 with (fail);refine Rg.wl ?_;refine Rg.lm 66 (.pointer (some ⟨pb,0,none⟩)) ?_;go_frame;refine Rg.lr 67 (exec_nil _ rfl rfl) ?_;go_frame
   refine Rg.lr 68 (exec_field _ rfl rfl (prF2 _ _)) ?_;go_frame;refine Rg.lr 69 (exec_field _ rfl rfl (grF5_0 _ _)) ?_;go_frame;refine Rg.lr 70 (Rg.exec_load (v:=.int .i64 e) _ _ rfl ⟨pb,5,none⟩ rfl (run_loadInt PAD.out.c5)) ?_;go_frame;refine Rg.lm 71 (.slice ta BL.length tc) ?_;go_frame;have HTD:=ι FTD.out.lt;have HWS:=ι KT.out.size;refine Rg.lk 72 (exec_fn 139 _ _ _ rfl rfl rfl (Ktcl5 _ _)) ?_;refine (chMake_f _ _ _ wd HRW.out).mono ?_;rintro e1 w211 ⟨cv,rfl,hcv,hb⟩;rw [hmk.out] at hcv ⊢;obtain ⟨e1,oa1,on1,oc1,ra1,rn1,rc1,rfl⟩:=hcv.ans.shape;refine ⟨_,rfl,?_⟩;go_frame;replace HRW:=ι (HRW.out.below hb);replace FTD:=ι (FTD.out.below hb);replace PAD:=ι (PAD.out.below hb);replace KT:=ι (Rg.acc KT.out hb);clear hb;have CV:=ι hcv;refine Rg.lm 65 (.tuple #[(.agg #[.int .i64 e1,.slice oa1 on1 oc1,.slice ra1 rn1 rc1]),.int .i64 mk]) ?_;go_frame;refine Rg.lr 73 (exec_extract (v:=(.agg #[.int .i64 e1,.slice oa1 on1 oc1,.slice ra1 rn1 rc1])) _ _ rfl rfl rfl) ?_;go_frame
   refine Rg.lr 74 (exec_extract (v:=.int .i64 mk) _ _ rfl rfl rfl) ?_;go_frame;refine Rg.lr 11 (exec_allocC rfl) ?_;go_frame;refine Rg.list_skip none rfl rfl (Rg.exec_store _ _ _ rfl _ rfl _ rfl (run_storeC _ _ _ _ _ _ _ (Tri.new w211 (.int .i64 0) (.slice none 0 0) (.slice none 0 0)))) ?_;go_frame;have htn:=(Tri.new w211 (.int .i64 0) (.slice none 0 0) (.slice none 0 0)).set (.int .i64 e1) (.slice oa1 on1 oc1) (.slice ra1 rn1 rc1);have hb:=((((Below.refl w211.heap.size w211).alloc (Nat.le_refl _) (.cells #[.int .i64 0,.slice none 0 0,.slice none 0 0] 54)).setCell (p:=⟨w211.heap.size,0,none⟩) (Nat.le_refl _) (.int .i64 e1)).setCell (p:=⟨w211.heap.size,1,none⟩) (Nat.le_refl _) (.slice oa1 on1 oc1)).setCell (p:=⟨w211.heap.size,2,none⟩) (Nat.le_refl _) (.slice ra1 rn1 rc1);generalize (((w211.alloc (.cells #[.int .i64 0,.slice none 0 0,.slice none 0 0] 54)).setCell ⟨w211.heap.size,0,none⟩ (.int .i64 e1)).setCell ⟨w211.heap.size,1,none⟩ (.slice oa1 on1 oc1)).setCell ⟨w211.heap.size,2,none⟩ (.slice ra1 rn1 rc1)=w212 at *
   replace HRW:=ι (HRW.out.below hb);replace FTD:=ι (FTD.out.below hb);replace PAD:=ι (PAD.out.below hb);replace CV:=ι (CV.out.below hb);replace KT:=ι (Rg.acc KT.out hb);clear hb;have S1:=ι htn;clear htn;refine Rg.la 12 (.int .i64 mk) ?_;go_frame;clear hcv;go_upto_region 19 with (fail);refine Rg.wl ?_;refine Rg.lr 75 (Rg.exec_load (v:=(.agg #[.int .i64 e1,.slice oa1 on1 oc1,.slice ra1 rn1 rc1])) _ _ rfl ⟨w211.heap.size,0,none⟩ rfl (run_loadC3 S1.out.c0 S1.out.c1 S1.out.c2)) ?_;go_frame;refine Rg.list_skip none rfl rfl (Rg.exec_store _ _ _ rfl _ rfl _ rfl (run_storeC _ _ _ _ _ _ _ FTD.out)) ?_;go_frame;have htt:=FTD.out.set (.int .i64 e1) (.slice oa1 on1 oc1) (.slice ra1 rn1 rc1);have hkp:=Rg.Kp.trans (Rg.Kp.trans (Rg.Kp.of_setCell (M:=fun z=>z=w.heap.size) (w:=w212) (a:=⟨w.heap.size,0,none⟩) (v:=.int .i64 e1) rfl) (Rg.Kp.of_setCell (M:=fun z=>z=w.heap.size) (a:=⟨w.heap.size,1,none⟩) (v:=.slice oa1 on1 oc1) rfl) (fun _ _ e=>e)) (Rg.Kp.of_setCell (M:=fun z=>z=w.heap.size) (a:=⟨w.heap.size,2,none⟩) (v:=.slice ra1 rn1 rc1) rfl) (fun _ _ e=>e)
   have hkf:=((KT.out.setCell (p:=⟨w.heap.size,0,none⟩) (Nat.le_refl _) (.int .i64 e1)).setCell (p:=⟨w.heap.size,1,none⟩) (Nat.le_refl _) (.slice oa1 on1 oc1)).setCell (p:=⟨w.heap.size,2,none⟩) (Nat.le_refl _) (.slice ra1 rn1 rc1);have hcf:=(CV.out.kp hkp (fun z hz=>by have:=HTD.out; omega)).mono HWS.out;generalize ((w212.setCell ⟨w.heap.size,0,none⟩ (.int .i64 e1)).setCell ⟨w.heap.size,1,none⟩ (.slice oa1 on1 oc1)).setCell ⟨w.heap.size,2,none⟩ (.slice ra1 rn1 rc1)=w99 at *;have HTT:=ι htt;have HFI:=ι (show BhPost e (bhL n RR) w (.returned (.agg #[.int .i64 e1,.slice oa1 on1 oc1,.slice ra1 rn1 rc1])) w99 from ⟨_,rfl,by rw [hBL.out,hmk.out]; exact hcf,hkf⟩);clear htt hkp hkf hcf;go_wp2;exact bodyPost_ret (results_cellC rfl _ rfl HTT.out) rfl HFI.out

theorem HomG.swap {d e:Int} {LL M:List (List Int)} {n m:Nat} {A B:List (List Nat)} (h:HomG d e LL M n m A B):HomG e d M LL m n B A :=
 ⟨h.em,h.dn,h.mb,h.la,h.gb,h.ga,h.m1,h.n1,by have:=h.nm; omega,h.len.symm,by have:=h.len; have:=h.l16; omega⟩
noncomputable def isB (d e:Int) (L M:List (List Int)):Bool:=if homC d e L M=0 then dfB d.toNat (pO (d+e) (prL L M)) else false
def IsPost (d e:Int) (L M:List (List Int)) (w:World) (ed:Ending) (w':World):Prop:=ed=.returned (.tuple #[.bool (isB d e L M),.int .i64 (homC d e L M)])∧Below w.heap.size w w'
theorem Is_hom {d e:Int} {gv hv:Value} {L M:List (List Int)} {w:World} (h:Rg.Rows w gv L) (h':Rg.Rows w hv M) :
  Calls Tryz.prog 68 #[.agg #[.int .i64 d,gv],.agg #[.int .i64 e,hv]] w (IsPost d e L M w):=by
 obtain ⟨ga,gc,rfl,-⟩:=h.shape;obtain ⟨ha,hc,rfl,-⟩:=h'.shape;have HG:=ι h;have HH:=ι h';have K:=ι (Below.refl w.heap.size w);clear h h'
 go_enter Tryz.func68,Tryz.ntmps68
 go_upto_region 0 with (fail);refine Rg.wl ?_;have hbx:=box2t w (.int .i64 d) (.slice ga L.length gc) 24;refine Rg.lr 2 (Rg.exec_box _ _ rfl rfl) ?_;go_frame;have hb:=(Below.refl w.heap.size w).alloc (Nat.le_refl _) (.cells #[.int .i64 d,.slice ga L.length gc] 24);generalize w.alloc (.cells #[.int .i64 d,.slice ga L.length gc] 24)=w1 at *;replace HG:=ι (HG.out.below hb);replace HH:=ι (HH.out.below hb);replace K:=ι (Rg.acc K.out hb);clear hb;have G0:=ι hbx.1;have G1:=ι hbx.2;clear hbx;have hbx:=box2t w1 (.int .i64 e) (.slice ha M.length hc) 24;refine Rg.lr 3 (Rg.exec_box _ _ rfl rfl) ?_;go_frame;have hb:=(Below.refl w1.heap.size w1).alloc (Nat.le_refl _) (.cells #[.int .i64 e,.slice ha M.length hc] 24);generalize w1.alloc (.cells #[.int .i64 e,.slice ha M.length hc] 24)=w2 at *;replace HG:=ι (HG.out.below hb);replace HH:=ι (HH.out.below hb);replace G0:=ι (G0.out.below hb)
 replace G1:=ι (G1.out.below hb);replace K:=ι (Rg.acc K.out hb);clear hb;have H0:=ι hbx.1;have H1:=ι hbx.2;clear hbx;refine Rg.la 4 (.bool false) ?_;go_frame;refine Rg.la 5 (.int .i64 0) ?_;go_frame;obtain ⟨c,hc0⟩:∃ c,Hid (homC d e L M=c):=⟨_,ι rfl⟩
 by_cases h0:c=0
 case neg =>
  have HR:=ι (show isB d e L M=false by unfold isB; rw [if_neg (by rw [hc0.out]; exact h0)]);go_upto_region 1 with (fail);refine Rg.wl ?_;refine Rg.lr 9 (Rg.exec_load (v:=.agg #[.int .i64 d,.slice ga L.length gc]) _ _ rfl ⟨w.heap.size,0,none⟩ rfl (run_loadG G0.out.cell G1.out.cell)) ?_;go_frame;refine Rg.lr 10 (Rg.exec_load (v:=.agg #[.int .i64 e,.slice ha M.length hc]) _ _ rfl ⟨w1.heap.size,0,none⟩ rfl (run_loadG H0.out.cell H1.out.cell)) ?_;go_frame;refine Rg.lk 11 (exec_fn 144 _ _ _ rfl rfl rfl (Kvcl0 _ _)) ?_;refine (of_bad HG.out HH.out hc0.out h0).mono ?_;rintro e1 w3 ⟨rfl,hb⟩;refine ⟨_,rfl,?_⟩;go_frame;replace HG:=ι (HG.out.below hb);replace HH:=ι (HH.out.below hb);replace G0:=ι (G0.out.below hb);replace G1:=ι (G1.out.below hb);replace H0:=ι (H0.out.below hb);replace H1:=ι (H1.out.below hb);replace K:=ι (Rg.acc K.out hb);clear hb;refine Rg.lm 8 (.tuple #[(.pointer none),.int .i64 c]) ?_;go_frame
  refine Rg.lr 12 (exec_extract (v:=(.pointer none)) _ _ rfl rfl rfl) ?_;go_frame;refine Rg.lr 13 (exec_extract (v:=.int .i64 c) _ _ rfl rfl rfl) ?_;go_frame;refine Rg.la 6 ((.pointer none)) ?_;go_frame;refine Rg.la 7 (.int .i64 c) ?_;go_frame;go_upto_region 2 with (fail);refine Rg.wl ?_;refine Rg.lm 14 (.int .i64 c) ?_;go_frame;refine Rg.lr 15 (exec_bin (R:=.bool true) .neq _ _ _ rfl rfl rfl (b_neqB _ (decide_eq_true h0))) ?_;go_frame;go_upto_region 3 with (fail);refine Rg.wl ?_;refine Rg.lm 16 (.int .i64 c) ?_;go_frame;refine Rg.la 4 (.bool false) ?_;go_frame;refine Rg.la 5 (.int .i64 c) ?_;go_frame;go_wp2
  go_ret2
  exact ⟨by rw [HR.out,hc0.out]; rfl,K.out⟩
 case pos =>
  have HZ:=ι (hc0.out.trans h0);obtain ⟨n,m,A,B,hmg⟩:=homC_get HZ.out;have HMG:=ι hmg;obtain ⟨bd,hbd⟩:∃ b,Hid (dfB n (pO (d+e) (prL L M))=b):=⟨_,ι rfl⟩;have HR:=ι (show isB d e L M=bd by unfold isB; rw [if_pos HZ.out,show d.toNat=n by have:=hmg.dn; omega,hbd.out]);clear hmg;go_upto_region 1 with (fail);refine Rg.wl ?_;refine Rg.lr 9 (Rg.exec_load (v:=.agg #[.int .i64 d,.slice ga L.length gc]) _ _ rfl ⟨w.heap.size,0,none⟩ rfl (run_loadG G0.out.cell G1.out.cell)) ?_;go_frame;refine Rg.lr 10 (Rg.exec_load (v:=.agg #[.int .i64 e,.slice ha M.length hc]) _ _ rfl ⟨w1.heap.size,0,none⟩ rfl (run_loadG H0.out.cell H1.out.cell)) ?_;go_frame;refine Rg.lk 11 (exec_fn 144 _ _ _ rfl rfl rfl (Kvcl0 _ _)) ?_;refine (of_ok HG.out HH.out HZ.out).mono ?_;rintro e1 w14 ⟨pb,oa,oc,ra,rc,rfl,hpa,hb⟩;refine ⟨_,rfl,?_⟩;go_frame;replace HG:=ι (HG.out.below hb);replace HH:=ι (HH.out.below hb)
  replace G0:=ι (G0.out.below hb);replace G1:=ι (G1.out.below hb);replace H0:=ι (H0.out.below hb);replace H1:=ι (H1.out.below hb);replace K:=ι (Rg.acc K.out hb);clear hb;have PA:=ι hpa;refine Rg.lm 8 (.tuple #[.pointer (some ⟨pb,0,none⟩),.int .i64 0]) ?_;go_frame;refine Rg.lr 12 (exec_extract (v:=.pointer (some ⟨pb,0,none⟩)) _ _ rfl rfl rfl) ?_;go_frame;refine Rg.lr 13 (exec_extract (v:=.int .i64 0) _ _ rfl rfl rfl) ?_;go_frame;refine Rg.la 6 (.pointer (some ⟨pb,0,none⟩)) ?_;go_frame;refine Rg.la 7 (.int .i64 0) ?_;go_frame;clear hpa;go_upto_region 2 with (fail);refine Rg.wl ?_;refine Rg.lm 14 (.int .i64 0) ?_;go_frame;refine Rg.lr 15 (exec_bin (R:=.bool false) .neq _ _ _ rfl rfl rfl (b_neqB _ (decide_eq_false (fun q=>q rfl)))) ?_;go_frame;go_upto_region 4 with (fail);refine Rg.wl ?_;refine Rg.lm 17 (.pointer (some ⟨pb,0,none⟩)) ?_;go_frame;refine Rg.lk 18 (exec_fn1 145 _ _ rfl rfl (Kvcl1 _ _)) ?_
  refine (defined_any PA.out HMG.out).mono ?_;rintro e1 w15 ⟨rfl,hb⟩;rw [hbd.out];refine ⟨_,rfl,?_⟩;go_frame;replace HG:=ι (HG.out.below hb);replace HH:=ι (HH.out.below hb);replace G0:=ι (G0.out.below hb);replace G1:=ι (G1.out.below hb);replace H0:=ι (H0.out.below hb);replace H1:=ι (H1.out.below hb);replace PA:=ι (PA.out.below hb);replace K:=ι (Rg.acc K.out hb);clear hb;refine Rg.la 4 (.bool bd) ?_;go_frame;refine Rg.la 5 (.int .i64 ((0:Nat):Int)) ?_;go_frame;go_wp2
  go_ret2
  exact ⟨by rw [HR.out,HZ.out]; rfl,K.out⟩

theorem Kycl0 (args:Array Value) (w:World):(callFunc 92 args).run Tryz.prog w=.ok (.enter 92 args) w:=by kernel_rfl
theorem Kycl2 (args:Array Value) (w:World):(callFunc 120 args).run Tryz.prog w=.ok (.enter 120 args) w:=by kernel_rfl
def CkhPost (d e:Int) (L M:List (List Int)) (w:World) (ed:Ending) (w':World):Prop:=ed=.returned (.int .i64 (homC d e L M))∧Below w.heap.size w w'
theorem hcheck_any {d e:Int} {gv hv:Value} {L M:List (List Int)} {w:World} (h:Rg.Rows w gv L) (h':Rg.Rows w hv M) :
  Calls Tryz.prog 311 #[.agg #[.int .i64 d,gv],.agg #[.int .i64 e,hv]] w (CkhPost d e L M w):=by
 obtain ⟨ga,gc,rfl,-⟩:=h.shape;obtain ⟨ha,hc,rfl,-⟩:=h'.shape;have HG:=ι h;have HH:=ι h';have K:=ι (Below.refl w.heap.size w);clear h h'
 go_enter Tryz.func311,Tryz.ntmps311
 go_upto_region 0 with (fail);refine Rg.wl ?_;have hbx:=box2t w (.int .i64 d) (.slice ga L.length gc) 24;refine Rg.lr 2 (Rg.exec_box _ _ rfl rfl) ?_;go_frame;have hb:=(Below.refl w.heap.size w).alloc (Nat.le_refl _) (.cells #[.int .i64 d,.slice ga L.length gc] 24);generalize w.alloc (.cells #[.int .i64 d,.slice ga L.length gc] 24)=w1 at *;replace HG:=ι (HG.out.below hb);replace HH:=ι (HH.out.below hb);replace K:=ι (Rg.acc K.out hb);clear hb;have G0:=ι hbx.1;have G1:=ι hbx.2;clear hbx;have hbx:=box2t w1 (.int .i64 e) (.slice ha M.length hc) 24;refine Rg.lr 3 (Rg.exec_box _ _ rfl rfl) ?_;go_frame;have hb:=(Below.refl w1.heap.size w1).alloc (Nat.le_refl _) (.cells #[.int .i64 e,.slice ha M.length hc] 24);generalize w1.alloc (.cells #[.int .i64 e,.slice ha M.length hc] 24)=w2 at *;replace HG:=ι (HG.out.below hb);replace HH:=ι (HH.out.below hb);replace G0:=ι (G0.out.below hb)
 replace G1:=ι (G1.out.below hb);replace K:=ι (Rg.acc K.out hb);clear hb;have H0:=ι hbx.1;have H1:=ι hbx.2;clear hbx;refine Rg.la 4 (.int .i64 0) ?_;go_frame;obtain ⟨g1,hg1⟩:∃ c,Hid (Ma.gchk d L=c):=⟨_,ι rfl⟩;obtain ⟨g2,hg2⟩:∃ c,Hid (Ma.gchk e M=c):=⟨_,ι rfl⟩;go_upto_region 1 with (fail);refine Rg.wl ?_;refine Rg.lr 7 (Rg.exec_load (v:=.agg #[.int .i64 d,.slice ga L.length gc]) _ _ rfl ⟨w.heap.size,0,none⟩ rfl (run_loadG G0.out.cell G1.out.cell)) ?_;go_frame;refine Rg.lk 8 (exec_fn1 92 _ _ rfl rfl (Kycl0 _ _)) ?_;refine (ref07Check_any _ _ _ w2 HG.out).mono ?_;rintro e1 w3 ⟨rfl,hb⟩;rw [hg1.out];refine ⟨_,rfl,?_⟩;go_frame;replace HG:=ι (HG.out.below hb);replace HH:=ι (HH.out.below hb);replace G0:=ι (G0.out.below hb);replace G1:=ι (G1.out.below hb);replace H0:=ι (H0.out.below hb);replace H1:=ι (H1.out.below hb);replace K:=ι (Rg.acc K.out hb);clear hb
 refine Rg.la 5 (.int .i64 g1) ?_;go_frame
 by_cases h1:g1=0
 case neg =>
  go_upto_region 2 with (fail);refine Rg.wl ?_;refine Rg.lm 9 (.int .i64 g1) ?_;go_frame;refine Rg.lr 10 (exec_bin (R:=.bool true) .neq _ _ _ rfl rfl rfl (b_neqB _ (decide_eq_true h1))) ?_;go_frame;go_upto_region 3 with (fail);refine Rg.wl ?_;refine Rg.lm 11 (.int .i64 g1) ?_;go_frame;refine Rg.la 4 (.int .i64 g1) ?_;go_frame;have HR:=ι (show homC d e L M=g1 by rw [homC_1 (by rw [hg1.out]; exact h1),hg1.out]);go_wp2;go_ret;exact ⟨by rw [HR.out]; rfl,K.out⟩
 case pos =>
  have HZ1:=ι (hg1.out.trans h1);go_upto_region 2 with (fail);refine Rg.wl ?_;refine Rg.lm 9 (.int .i64 g1) ?_;go_frame;refine Rg.lr 10 (exec_bin (R:=.bool false) .neq _ _ _ rfl rfl rfl (b_neqB _ (decide_eq_false (fun q=>q h1)))) ?_;go_frame;go_upto_region 4 with (fail);refine Rg.wl ?_;refine Rg.lr 12 (Rg.exec_load (v:=.agg #[.int .i64 e,.slice ha M.length hc]) _ _ rfl ⟨w1.heap.size,0,none⟩ rfl (run_loadG H0.out.cell H1.out.cell)) ?_;go_frame;refine Rg.lk 13 (exec_fn1 92 _ _ rfl rfl (Kycl0 _ _)) ?_;refine (ref07Check_any _ _ _ w3 HH.out).mono ?_;rintro e1 w14 ⟨rfl,hb⟩;rw [hg2.out];refine ⟨_,rfl,?_⟩;go_frame;replace HG:=ι (HG.out.below hb);replace HH:=ι (HH.out.below hb);replace G0:=ι (G0.out.below hb);replace G1:=ι (G1.out.below hb);replace H0:=ι (H0.out.below hb);replace H1:=ι (H1.out.below hb);replace K:=ι (Rg.acc K.out hb);clear hb;refine Rg.la 6 (.int .i64 g2) ?_;go_frame
  by_cases h2:g2=0
  case neg =>
   go_upto_region 5 with (fail);refine Rg.wl ?_;refine Rg.lm 14 (.int .i64 g2) ?_;go_frame;refine Rg.lr 15 (exec_bin (R:=.bool true) .neq _ _ _ rfl rfl rfl (b_neqB _ (decide_eq_true h2))) ?_;go_frame;go_upto_region 6 with (fail);refine Rg.wl ?_;refine Rg.lm 16 (.int .i64 g2) ?_;go_frame;refine Rg.la 4 (.int .i64 g2) ?_;go_frame;have HR:=ι (show homC d e L M=g2 by rw [homC_2 HZ1.out (by rw [hg2.out]; exact h2),hg2.out]);go_wp2;go_ret;exact ⟨by rw [HR.out]; rfl,K.out⟩
  case pos =>
   have HZ2:=ι (hg2.out.trans h2)
   have hd:1≤d∧d≤64:=by
    obtain ⟨D,gs,e1,_,_,q1,q2,_⟩:=gchk_ok HZ1.out;omega
   have he:1≤e∧e≤64:=by
    obtain ⟨D,gs,e1,_,_,q1,q2,_⟩:=gchk_ok HZ2.out;omega
   go_upto_region 5 with (fail);refine Rg.wl ?_;refine Rg.lm 14 (.int .i64 g2) ?_;go_frame;refine Rg.lr 15 (exec_bin (R:=.bool false) .neq _ _ _ rfl rfl rfl (b_neqB _ (decide_eq_false (fun q=>q h2)))) ?_;go_frame
   by_cases h3:L.length=M.length
   case neg =>
    go_upto_region 7 with (fail);refine Rg.wl ?_;refine Rg.lr 17 (exec_fieldG _ rfl rfl) ?_;go_frame;refine Rg.lr 18 (Rg.exec_load (v:=.slice ga L.length gc) _ _ rfl ⟨w.heap.size,1,none⟩ rfl (Rg.run_loadSl _ _ Tryz.underlying22 G1.out.cell)) ?_;go_frame;refine Rg.lr 19 (exec_len _ _ _ rfl Tryz.underlying22 _ _ _ rfl) ?_;go_frame;refine Rg.lr 20 (exec_fieldG _ rfl rfl) ?_;go_frame;refine Rg.lr 21 (Rg.exec_load (v:=.slice ha M.length hc) _ _ rfl ⟨w1.heap.size,1,none⟩ rfl (Rg.run_loadSl _ _ Tryz.underlying22 H1.out.cell)) ?_;go_frame;refine Rg.lr 22 (exec_len _ _ _ rfl Tryz.underlying22 _ _ _ rfl) ?_;go_frame;refine Rg.lr 23 (exec_bin (R:=.bool true) .neq _ _ _ rfl rfl rfl (b_neqB _ Rg.dT)) ?_;go_frame;go_upto_region 8 with (fail);refine Rg.wl ?_;refine Rg.la 4 (.int .i64 4) ?_;go_frame;have HR:=ι (homC_3 HZ1.out HZ2.out h3);go_wp2;go_ret;exact ⟨by rw [HR.out]; rfl,K.out⟩
   case pos =>
    go_upto_region 7 with (fail);refine Rg.wl ?_;refine Rg.lr 17 (exec_fieldG _ rfl rfl) ?_;go_frame;refine Rg.lr 18 (Rg.exec_load (v:=.slice ga L.length gc) _ _ rfl ⟨w.heap.size,1,none⟩ rfl (Rg.run_loadSl _ _ Tryz.underlying22 G1.out.cell)) ?_;go_frame;refine Rg.lr 19 (exec_len _ _ _ rfl Tryz.underlying22 _ _ _ rfl) ?_;go_frame;refine Rg.lr 20 (exec_fieldG _ rfl rfl) ?_;go_frame;refine Rg.lr 21 (Rg.exec_load (v:=.slice ha M.length hc) _ _ rfl ⟨w1.heap.size,1,none⟩ rfl (Rg.run_loadSl _ _ Tryz.underlying22 H1.out.cell)) ?_;go_frame;refine Rg.lr 22 (exec_len _ _ _ rfl Tryz.underlying22 _ _ _ rfl) ?_;go_frame;refine Rg.lr 23 (exec_bin (R:=.bool false) .neq _ _ _ rfl rfl rfl (b_neqB _ Rg.dF)) ?_;go_frame
    by_cases h4:64<d+e
    case pos =>
     go_upto_region 9 with (fail);refine Rg.wl ?_;refine Rg.lr 24 (exec_fieldG0 _ rfl rfl) ?_;go_frame;refine Rg.lr 25 (Rg.exec_load (v:=.int .i64 d) _ _ rfl ⟨w.heap.size,0,none⟩ rfl (run_loadInt G0.out.cell)) ?_;go_frame;refine Rg.lr 26 (exec_fieldG0 _ rfl rfl) ?_;go_frame;refine Rg.lr 27 (Rg.exec_load (v:=.int .i64 e) _ _ rfl ⟨w1.heap.size,0,none⟩ rfl (run_loadInt H0.out.cell)) ?_;go_frame;refine Rg.lr 28 (exec_bin (R:=.int .i64 (d+e)) .add _ _ _ rfl rfl rfl (b_add _ (by omega) (by omega))) ?_;go_frame;refine Rg.lr 29 (exec_bin (R:=.bool true) .gtr _ _ _ rfl rfl rfl (b_gtr _ Rg.dT)) ?_;go_frame;go_upto_region 10 with (fail);refine Rg.wl ?_;refine Rg.la 4 (.int .i64 5) ?_;go_frame;have HR:=ι (homC_4 HZ1.out HZ2.out h3 h4);go_wp2;go_ret;exact ⟨by rw [HR.out]; rfl,K.out⟩
    case neg =>
     go_upto_region 9 with (fail);refine Rg.wl ?_;refine Rg.lr 24 (exec_fieldG0 _ rfl rfl) ?_;go_frame;refine Rg.lr 25 (Rg.exec_load (v:=.int .i64 d) _ _ rfl ⟨w.heap.size,0,none⟩ rfl (run_loadInt G0.out.cell)) ?_;go_frame;refine Rg.lr 26 (exec_fieldG0 _ rfl rfl) ?_;go_frame;refine Rg.lr 27 (Rg.exec_load (v:=.int .i64 e) _ _ rfl ⟨w1.heap.size,0,none⟩ rfl (run_loadInt H0.out.cell)) ?_;go_frame;refine Rg.lr 28 (exec_bin (R:=.int .i64 (d+e)) .add _ _ _ rfl rfl rfl (b_add _ (by omega) (by omega))) ?_;go_frame;refine Rg.lr 29 (exec_bin (R:=.bool false) .gtr _ _ _ rfl rfl rfl (b_gtr _ Rg.dF)) ?_;go_frame;go_upto_region 11 with (fail);refine Rg.wl ?_;refine Rg.la 4 (.int .i64 ((0:Nat):Int)) ?_;go_frame;have HR:=ι (homC_5 HZ1.out HZ2.out h3 h4);go_wp2;go_ret;exact ⟨by rw [HR.out]; rfl,K.out⟩
def PpPost (D:Int) (ll:List (List Int)) (w:World) (ed:Ending) (w':World):Prop:=∃ cv,ed=.returned cv∧ChAnsF w.heap.size w' D ll cv (mkchk D ll)∧Below w.heap.size w w'
theorem hpairs_any {n m:Nat} {A B:List (List Nat)} {gv hv:Value} {L M:List (List Int)} {w:World} (h:Rg.Rows w gv L) (h':Rg.Rows w hv M) (hm:HomG ((n:Nat):Int) ((m:Nat):Int) L M n m A B) :
  Calls Tryz.prog 205 #[.agg #[.int .i64 ((n:Nat):Int),gv],.agg #[.int .i64 ((m:Nat):Int),hv]] w (PpPost (((n:Nat):Int)+((m:Nat):Int)) (prL L M) w):=by
 obtain ⟨ga,gc,rfl,-⟩:=h.shape;obtain ⟨ha,hc,rfl,-⟩:=h'.shape;have HG:=ι h;have HH:=ι h';have K:=ι (Below.refl w.heap.size w);clear h h';have HM:=ι hm;have HLN:=ι hm.lens;have HN1:=ι hm.n1;have HNM:=ι hm.nm;clear hm
 go_enter Tryz.func205,Tryz.ntmps205
 go_upto_region 0 with (fail);refine Rg.wl ?_;have hbx:=box2t w (.int .i64 ((n:Nat):Int)) (.slice ga L.length gc) 24;refine Rg.lr 2 (Rg.exec_box _ _ rfl rfl) ?_;go_frame;have hb:=(Below.refl w.heap.size w).alloc (Nat.le_refl _) (.cells #[.int .i64 ((n:Nat):Int),.slice ga L.length gc] 24);generalize w.alloc (.cells #[.int .i64 ((n:Nat):Int),.slice ga L.length gc] 24)=w1 at *;replace HG:=ι (HG.out.below hb);replace HH:=ι (HH.out.below hb);replace K:=ι (Rg.acc K.out hb);clear hb;have G0:=ι hbx.1;have G1:=ι hbx.2;clear hbx;have hbx:=box2t w1 (.int .i64 ((m:Nat):Int)) (.slice ha M.length hc) 24;refine Rg.lr 3 (Rg.exec_box _ _ rfl rfl) ?_;go_frame;have hb:=(Below.refl w1.heap.size w1).alloc (Nat.le_refl _) (.cells #[.int .i64 ((m:Nat):Int),.slice ha M.length hc] 24);generalize w1.alloc (.cells #[.int .i64 ((m:Nat):Int),.slice ha M.length hc] 24)=w2 at *
 replace HG:=ι (HG.out.below hb);replace HH:=ι (HH.out.below hb);replace G0:=ι (G0.out.below hb);replace G1:=ι (G1.out.below hb);replace K:=ι (Rg.acc K.out hb);clear hb;have H0:=ι hbx.1;have H1:=ι hbx.2;clear hbx;have HTDL:=ι (show w.heap.size≤w2.heap.size from K.out.size);have hnew:=Tri.new w2 (.int .i64 0) (.slice none 0 0) (.slice none 0 0);refine Rg.lr 4 (exec_allocC rfl) ?_;go_frame;have hb:=(Below.refl w2.heap.size w2).alloc (Nat.le_refl _) (.cells #[.int .i64 0,.slice none 0 0,.slice none 0 0] 54);generalize w2.alloc (.cells #[.int .i64 0,.slice none 0 0,.slice none 0 0] 54)=w3 at *;replace HG:=ι (HG.out.below hb);replace HH:=ι (HH.out.below hb);replace G0:=ι (G0.out.below hb);replace G1:=ι (G1.out.below hb);replace H0:=ι (H0.out.below hb);replace H1:=ι (H1.out.below hb);replace K:=ι (Rg.acc K.out hb);clear hb;have FT:=ι hnew;clear hnew;go_upto_region 1 with (fail)
 refine Rg.wl ?_;refine Rg.la 5 (.slice none 0 0) ?_;go_frame;go_upto_region 2 with (fail);refine Rg.wl ?_;refine Rg.la 6 (.int .i64 ((0:Nat):Int)) ?_;go_frame;have K1:=ι (Below.refl w3.heap.size w3);have RP:=ι (show RowP w3.heap.size w3 (.slice none 0 0) ((prL L M).take 0) by rw [List.take_zero]; exact RowP.nil _ _);go_wp2
 go_loopw [5,6] (fun tv iv wr=>∃ i:Nat,iv=.int .i64 ((i:Nat):Int)∧i≤L.length∧Hid (RowP w3.heap.size wr tv ((prL L M).take i))∧Hid (Below w3.heap.size w3 wr)) (fun _ iv _=>L.length - (intOf iv).toNat)
 case atStart=>exact ⟨0,rfl,Nat.zero_le _,RP,K1⟩
 case round =>
  clear K1 RP;obtain ⟨i,rfl,hi,RP,K1⟩:=hrel;generalize wr=wd at *;have h16:L.length≤16:=HLN.out.2.2.2;obtain ⟨ta,tc,rfl⟩:=RP.out.shape
  by_cases hil:i<L.length
  case pos =>
   have HIL:=ι hil
   have him:i<M.length:=by have:=HLN.out.2.2.1; omega
   have HIM:=ι him;have HST:=ι (prL_step hil him);obtain ⟨x,hx⟩:∃ x,Hid (L[i]'hil=x):=⟨_,ι rfl⟩;obtain ⟨y,hy⟩:∃ y,Hid (M[i]'him=y):=⟨_,ι rfl⟩;rw [hx.out,hy.out] at HST;obtain ⟨xb,xo,xa,xc,e1,hxb,hxc,hxi⟩:=rowsI_get HG.out hil;obtain ⟨yb,yo,ya,yc,e2,hyb,hyc,hyi⟩:=rowsI_get HH.out him;subst e1 e2;rw [hx.out] at hxc hxi;rw [hy.out] at hyc hyi;have CX:=ι (CL.mk hxc hxb);have CY:=ι (CL.mk hyc hyb);have XI:=ι hxi;have HXL:=ι (show x.length=n from HLN.out.1 x (by rw [← hx.out]; exact List.getElem_mem hil));have HYL:=ι (show y.length=m from HLN.out.2.1 y (by rw [← hy.out]; exact List.getElem_mem him))
   have HYB:=ι (show ∀ z∈y,0≤z∧z≤64 from fun z hz=>by
    have hmem:y∈M:=by rw [← hy.out]; exact List.getElem_mem him
    rw [HM.out.mb] at hmem;obtain ⟨s,hs,rfl⟩:=List.mem_map.1 hmem;have gs:=HM.out.gb s hs;obtain ⟨q,hq,rfl⟩:=List.mem_map.1 hz;have:=gs.1.1 q hq;have:=gs.2;have:=HNM.out
    omega)
   obtain ⟨ya',yc',ey,-,-,-,hys⟩:=hyi.shape
   injection ey with ey1 _ ey3
   subst ey1 ey3
   have hyl0:0<y.length:=by rw [HYL.out]; exact HM.out.m1
   obtain ⟨yb2,yo2,rfl,hyb2,hyc2⟩:=hys hyl0;have YC:=ι (show ∀ k (hk:k<y.length),CL w3 yb2 (yo2+k) (.int .i64 y[k]) from fun k hk=>CL.mk (hyc2 k hk) hyb2);obtain ⟨tl,htl⟩:∃ l,Hid ((prL L M).take i=l):=⟨_,ι rfl⟩;have HTL:=ι (show tl.length<1000000 by rw [← htl.out,List.length_take]; omega);rw [htl.out] at RP HST ⊢;have K1s:=K1;have RPs:=RP;clear hxb hxc hxi hyb hyc hyi hys hyc2 hyb2 hyl0;go_upto_region 3 with (fail);refine Rg.wl ?_;refine Rg.lm 11 (.int .i64 ((i:Nat):Int)) ?_;go_frame;refine Rg.lr 12 (exec_fieldG _ rfl rfl) ?_;go_frame;refine Rg.lr 13 (Rg.exec_load (v:=.slice (some ⟨xb,xo,none⟩) L.length gc) _ _ rfl ⟨w.heap.size,1,none⟩ rfl (Rg.run_loadSl _ _ Tryz.underlying22 ((Below.cell (p:=⟨w.heap.size,1,none⟩) K1.out G1.out.lt).trans G1.out.cell))) ?_;go_frame;refine Rg.lr 14 (exec_len _ _ _ rfl Tryz.underlying22 _ _ _ rfl) ?_;go_frame
   refine Rg.lr 15 (exec_bin (R:=.bool true) .lss _ _ _ rfl rfl rfl (b_lss _ Rg.dT)) ?_;go_frame;go_upto_region 5 with (fail);refine Rg.wl ?_;refine Rg.lr 18 (exec_fieldG _ rfl rfl) ?_;go_frame;refine Rg.lr 19 (Rg.exec_load (v:=.slice (some ⟨xb,xo,none⟩) L.length gc) _ _ rfl ⟨w.heap.size,1,none⟩ rfl (Rg.run_loadSl _ _ Tryz.underlying22 ((Below.cell (p:=⟨w.heap.size,1,none⟩) K1.out G1.out.lt).trans G1.out.cell))) ?_;go_frame;refine Rg.lm 20 (.int .i64 ((i:Nat):Int)) ?_;go_frame;refine Rg.lr 21 (exec_indexS slPerms _ _ rfl xb (xo) (L.length) gc (i) rfl rfl HIL.out) ?_;go_frame;refine Rg.lr 22 (Rg.exec_load (v:=.slice xa x.length xc) _ _ rfl ⟨xb,xo+i,none⟩ rfl (Rg.run_loadSl _ _ Tryz.underlying51 ((Below.cell (p:=⟨xb,xo+i,none⟩) K1.out CX.out.lt).trans CX.out.cell))) ?_;go_frame;have HLT6:=ι (fun z e=>(RP.out.lt z e).2);have HSZ6:=ι K1.out.size;refine Rg.lk 23 (exec_fn1 70 _ _ rfl rfl (Wncl3 _ _)) ?_
   refine (Own_any _ x wd (XI.out.below K1.out) (by rw [HXL.out]; have:=HNM.out; omega)).mono ?_;rintro e1 w101 ⟨ov,rfl,hov,hb⟩;have OW:=ι (OwI.mk hov);have HBX:=ι hb;clear hov;refine ⟨_,rfl,?_⟩;go_frame;replace RP:=ι (RP.out.below hb);replace K1:=ι (Rg.acc K1.out hb);clear hb;refine Rg.la 7 (ov) ?_;go_frame;go_upto_region 6 with (fail);refine Rg.wl ?_;refine Rg.la 8 (.int .i64 ((0:Nat):Int)) ?_;go_frame;have OW0:=ι (show OwI wd.heap.size w101 ov (joinI x (y.take 0)) by rw [List.take_zero]; unfold joinI; rw [List.map_nil,List.append_nil]; exact OW.out);have HWDL:=ι (show w3.heap.size≤wd.heap.size from K1s.out.size);clear OW K1 RP;have K1:=K1s;have RP:=RPs;clear K1s RPs;go_wp2
   go_loopw [7,8] (fun zv kv wr=>∃ k:Nat,kv=.int .i64 ((k:Nat):Int)∧k≤m∧Hid (OwI wd.heap.size wr zv (joinI x (y.take k)))∧Hid (Below wd.heap.size wd wr)) (fun _ kv _=>m - (intOf kv).toNat)
   case atStart=>exact ⟨0,rfl,Nat.zero_le _,OW0,HBX⟩
   case round =>
    clear HBX OW0;obtain ⟨k,rfl,hk,OW,KE⟩:=hrel;generalize wr=we at *;obtain ⟨za,zc,rfl⟩:=OW.out.shape;have KX:=ι (Rg.acc K1.out KE.out)
    have hm64:m≤64:=by have:=HNM.out; omega
    by_cases hkm:k<m
    case neg =>
     have HTK:=ι (show y.take k=y from List.take_of_length_le (by rw [HYL.out]; omega));rw [HTK.out] at OW ⊢;have RPX:=ι (RP.out.below KE.out);go_upto_region 7 with (fail);refine Rg.wl ?_;refine Rg.lm 24 (.int .i64 ((k:Nat):Int)) ?_;go_frame;refine Rg.lr 25 (exec_fieldG0 _ rfl rfl) ?_;go_frame;refine Rg.lr 26 (Rg.exec_load (v:=.int .i64 ((m:Nat):Int)) _ _ rfl ⟨w1.heap.size,0,none⟩ rfl (run_loadInt ((Below.cell (p:=⟨w1.heap.size,0,none⟩) KX.out H0.out.lt).trans H0.out.cell))) ?_;go_frame;refine Rg.lr 27 (exec_bin (R:=.bool false) .lss _ _ _ rfl rfl rfl (b_lss _ Rg.dF)) ?_;go_frame;go_upto_region 10 with (fail);refine Rg.wl ?_;refine Rg.lm 44 (.slice ta tl.length tc) ?_;go_frame;refine Rg.lm 45 (.slice za (joinI x y).length zc) ?_;go_frame;refine Rg.lr 46 (Rg.exec_buildSlice _ _ _ rfl (.slice za (joinI x y).length zc) rfl (run_build1P we _ ⟨_,_,_,rfl⟩)) ?_;go_frame
     obtain ⟨a9,c9,X9,r1,r2,r3⟩:=RPX.out.push KX.out.size OW.out.own (by unfold joinI; rw [List.length_append,List.length_map,HXL.out,HYL.out]; have:=HNM.out; omega) (fun z e=>⟨by have:=(OW.out.own.lt z e).1; have:=HSZ6.out; omega,fun e2=>by have:=(OW.out.own.lt z e).1; have:=HLT6.out z e2; omega⟩) HTL.out 22;refine Rg.lr 47 (Rg.exec_append _ _ _ rfl rfl rfl r1) ?_;go_frame;refine Rg.la 5 (.slice a9 (tl.length+1) c9) ?_;go_frame;have K6:=ι (r3 (Nat.le_refl _) KX.out);have RP2:=ι (show RowP w3.heap.size X9 (.slice a9 (tl.length+1) c9) ((prL L M).take (i+1)) by rw [HST.out]; exact r2);clear r1 r2 r3;go_upto_region 4 with (fail);refine Rg.wl ?_;refine Rg.lm 16 (.int .i64 ((i:Nat):Int)) ?_;go_frame;refine Rg.lr 17 (exec_bin (R:=.int .i64 (((i+1):Nat):Int)) .add _ _ _ rfl rfl rfl (b_add _ (by omega) (by omega))) ?_;go_frame;refine Rg.la 6 (.int .i64 (((i+1):Nat):Int)) ?_;go_frame
     go_wp2
     go_roundw
     case rel=>exact ⟨i+1,by go_num,HIL.out,RP2,K6⟩
     case measure=>simp [intOf]; have:=HIL.out; omega
    case pos =>
     have HKM:=ι hkm;have HKY:=ι (show k<y.length by rw [HYL.out]; exact hkm);obtain ⟨q,hq⟩:∃ q,Hid (y[k]'HKY.out=q):=⟨_,ι rfl⟩;have CQ:=ι (YC.out k HKY.out);rw [hq.out] at CQ;have hqb:0≤q∧q≤64:=HYB.out q (by rw [← hq.out]; exact List.getElem_mem _);have HJ:=ι (show joinI x (y.take (k+1))=joinI x (y.take k)++[((n:Nat):Int)+q] by rw [joinI_step HKY.out,hq.out,HXL.out,Int.add_comm]);obtain ⟨jl,hjl⟩:∃ l,Hid (joinI x (y.take k)=l):=⟨_,ι rfl⟩;have HJL:=ι (show jl.length<1000000 by rw [← hjl.out]; unfold joinI; rw [List.length_append,List.length_map,List.length_take,HXL.out]; have:=HNM.out; omega)
     have hn64:n≤64:=by have:=HNM.out; omega
     rw [hjl.out] at OW HJ ⊢;go_upto_region 7 with (fail);refine Rg.wl ?_;refine Rg.lm 24 (.int .i64 ((k:Nat):Int)) ?_;go_frame;refine Rg.lr 25 (exec_fieldG0 _ rfl rfl) ?_;go_frame;refine Rg.lr 26 (Rg.exec_load (v:=.int .i64 ((m:Nat):Int)) _ _ rfl ⟨w1.heap.size,0,none⟩ rfl (run_loadInt ((Below.cell (p:=⟨w1.heap.size,0,none⟩) KX.out H0.out.lt).trans H0.out.cell))) ?_;go_frame;refine Rg.lr 27 (exec_bin (R:=.bool true) .lss _ _ _ rfl rfl rfl (b_lss _ Rg.dT)) ?_;go_frame;have hV1:Below we.heap.size we we.drew:=(Below.refl _ _).drew;replace OW:=ι (OW.out.below hV1);replace KE:=ι (Rg.acc KE.out hV1);clear hV1;go_upto_region 9 with (fail);have hV0:Below we.heap.size we we.drew:=(Below.refl _ _).drew;replace KX:=ι (Rg.acc KX.out hV0);clear hV0;refine Rg.Any.begin (S:=Rg.Both 14 (fun _=>True) (fun W=>Below w3.heap.size w3 W)) mix ?_;generalize we.drew=w142 at *
     have hS:∀ (l:Array Bool) W,Below w3.heap.size w3 W→Rg.Both 14 (fun _=>True) (fun W=>Below w3.heap.size w3 W) l W:=fun l W h=>⟨.inr trivial,h⟩;have hI:=KX.out;refine Rg.tm 0 14 (.slice za jl.length zc) 30 (hS _ _ hI) ?_;go_frame;refine Rg.tg 1 14 (.pointer (some ⟨w.heap.size,0,none⟩)) 31 rfl rfl (.inl ⟨rfl,fun w _=>exec_fieldG0 _ rfl rfl⟩) (hS _ _ hI) ?_;go_frame;refine Rg.tg 2 14 (.int .i64 ((n:Nat):Int)) 32 rfl rfl (Rg.yields_cell _ _ rfl rfl ⟨w.heap.size,0,none⟩ rfl (fun W hW=>run_loadInt ((Below.cell (p:=⟨w.heap.size,0,none⟩) hW G0.out.lt).trans G0.out.cell))) (hS _ _ hI) ?_;go_frame;refine Rg.tg 3 14 (.pointer (some ⟨w1.heap.size,1,none⟩)) 33 rfl rfl (.inl ⟨rfl,fun w _=>exec_fieldG _ rfl rfl⟩) (hS _ _ hI) ?_;go_frame;refine Rg.tg 4 14 (.slice (some ⟨yb,yo,none⟩) M.length hc) 34 rfl rfl (Rg.yields_cell _ _ rfl rfl ⟨w1.heap.size,1,none⟩ rfl (fun W hW=>Rg.run_loadSl _ _ Tryz.underlying22 ((Below.cell (p:=⟨w1.heap.size,1,none⟩) hW H1.out.lt).trans H1.out.cell))) (hS _ _ hI) ?_;go_frame
     refine Rg.tm 5 14 (.int .i64 ((i:Nat):Int)) 35 (hS _ _ hI) ?_;go_frame;refine Rg.tg 6 14 (.pointer (some ⟨yb,yo+i,none⟩)) 36 rfl rfl (Rg.yields_index slPerms _ _ rfl rfl yb (yo) (M.length) hc (i) rfl rfl HIM.out) (hS _ _ hI) ?_;go_frame;refine Rg.tg 7 14 (.slice (some ⟨yb2,yo2,none⟩) y.length yc) 37 rfl rfl (Rg.yields_cell _ _ rfl rfl ⟨yb,yo+i,none⟩ rfl (fun W hW=>Rg.run_loadSl _ _ Tryz.underlying51 ((Below.cell (p:=⟨yb,yo+i,none⟩) hW CY.out.lt).trans CY.out.cell))) (hS _ _ hI) ?_;go_frame;refine Rg.tm 8 14 (.int .i64 ((k:Nat):Int)) 38 (hS _ _ hI) ?_;go_frame;refine Rg.tg 9 14 (.pointer (some ⟨yb2,yo2+k,none⟩)) 39 rfl rfl (Rg.yields_index slPerm _ _ rfl rfl yb2 (yo2) (y.length) yc (k) rfl rfl HKY.out) (hS _ _ hI) ?_;go_frame;refine Rg.tg 10 14 (.int .i64 q) 40 rfl rfl (Rg.yields_cell _ _ rfl rfl ⟨yb2,yo2+k,none⟩ rfl (fun W hW=>run_loadInt ((Below.cell (p:=⟨yb2,yo2+k,none⟩) hW CQ.out.lt).trans CQ.out.cell))) (hS _ _ hI) ?_;go_frame
     refine Rg.tg 11 14 (.int .i64 (((n:Nat):Int)+q)) 41 rfl rfl (.inl ⟨rfl,fun w _=>exec_bin (R:=.int .i64 (((n:Nat):Int)+q)) .add _ _ _ rfl rfl rfl (b_add _ (by omega) (by omega))⟩) (hS _ _ hI) ?_;go_frame;obtain ⟨a9,c9,X9,r1,r2,r3⟩:=OW.out.push KE.out.size (((n:Nat):Int)+q) HJL.out 36;have hKW:=hI;have hb:=(Below.refl w142.heap.size w142).alloc (Nat.le_refl _) (.cells #[.int .i64 (((n:Nat):Int)+q)] 3);have hI2_0:=Rg.acc hI hb;have hI2_1:=hb;clear hb hI;refine Rg.Any.one (i:=12) (by kernel_rfl) (Rg.Any.run (some 42) rfl rfl rfl (Rg.exec_buildSlice _ _ _ rfl (.int .i64 (((n:Nat):Int)+q)) rfl (run_build1i w142 _)) (hS _ _ hI2_0) ?_);go_frame;generalize w142.alloc (.cells #[.int .i64 (((n:Nat):Int)+q)] 3)=w143 at *;have hI3_g:=r3 HWDL.out hKW;refine Rg.Any.one (i:=13) (by kernel_rfl) (Rg.Any.run (some 43) rfl rfl rfl (Rg.exec_append _ _ _ rfl rfl rfl r1) (hS _ _ hI3_g) ?_)
     go_frame;clear hI2_0 hI2_1;refine Rg.Any.one (i:=14) (by kernel_rfl) (Rg.Any.run (some 7) rfl rfl rfl (Rg.xa (.slice a9 (jl.length+1) c9) _ rfl rfl) (hS _ _ hI3_g) ?_);go_frame;refine Rg.Any.done (by kernel_rfl) ?_ _;replace KX:=ι hI3_g;clear hS hI3_g;have OW2:=ι (show OwI wd.heap.size X9 (.slice a9 (jl.length+1) c9) (joinI x (y.take (k+1))) by rw [HJ.out]; exact r2);have KE2:=ι (r3 (Nat.le_refl _) KE.out);clear r1 r2 r3;go_upto_region 8 with (fail);refine Rg.wl ?_;refine Rg.lm 28 (.int .i64 ((k:Nat):Int)) ?_;go_frame;refine Rg.lr 29 (exec_bin (R:=.int .i64 (((k+1):Nat):Int)) .add _ _ _ rfl rfl rfl (b_add _ (by omega) (by omega))) ?_;go_frame;refine Rg.la 8 (.int .i64 (((k+1):Nat):Int)) ?_;go_frame;go_wp2
     go_roundw
     case rel=>exact ⟨k+1,by go_num,HKM.out,OW2,KE2⟩
     case measure=>simp [intOf]; have:=HKM.out; omega
  case neg =>
   obtain ⟨PL,hPL⟩:∃ l,Hid (prL L M=l):=⟨_,ι rfl⟩
   have HTE:=ι (show (prL L M).take i=PL by
    rw [hPL.out];refine List.take_of_length_le ?_
    rw [← hPL.out]; unfold prL; rw [List.length_zipWith]; omega)
   rw [HTE.out] at RP ⊢;have HPL:=ι (show PL.length≤16 by rw [← hPL.out]; unfold prL; rw [List.length_zipWith]; omega);have HRP:=ι (FRows.rows (RP.out.frows (by have:=HPL.out; omega) (G:=fun _=>True) (fun _ _ _=>trivial)));have hnm:n+m≤64:=HNM.out;have KT:=ι (show Below w.heap.size w wd from K.out.trans (K1.out.mono K.out.size));obtain ⟨mk,hmk⟩:∃ c,Hid (mkchk (((n:Nat):Int)+((m:Nat):Int)) PL=c):=⟨_,ι rfl⟩;go_upto_region 3 with (fail);refine Rg.wl ?_;refine Rg.lm 11 (.int .i64 ((i:Nat):Int)) ?_;go_frame;refine Rg.lr 12 (exec_fieldG _ rfl rfl) ?_;go_frame;refine Rg.lr 13 (Rg.exec_load (v:=.slice ga L.length gc) _ _ rfl ⟨w.heap.size,1,none⟩ rfl (Rg.run_loadSl _ _ Tryz.underlying22 ((Below.cell (p:=⟨w.heap.size,1,none⟩) K1.out G1.out.lt).trans G1.out.cell))) ?_;go_frame;refine Rg.lr 14 (exec_len _ _ _ rfl Tryz.underlying22 _ _ _ rfl) ?_;go_frame
   refine Rg.lr 15 (exec_bin (R:=.bool false) .lss _ _ _ rfl rfl rfl (b_lss _ Rg.dF)) ?_;go_frame;replace HG:=ι (HG.out.below K1.out);replace HH:=ι (HH.out.below K1.out);replace G0:=ι (G0.out.below K1.out);replace G1:=ι (G1.out.below K1.out);replace H0:=ι (H0.out.below K1.out);replace H1:=ι (H1.out.below K1.out);replace FT:=ι (FT.out.below K1.out);clear K1 RP K;go_upto_region 11 with (fail);refine Rg.wl ?_;refine Rg.lr 49 (exec_fieldG0 _ rfl rfl) ?_;go_frame;refine Rg.lr 50 (Rg.exec_load (v:=.int .i64 ((n:Nat):Int)) _ _ rfl ⟨w.heap.size,0,none⟩ rfl (run_loadInt G0.out.cell)) ?_;go_frame;refine Rg.lr 51 (exec_fieldG0 _ rfl rfl) ?_;go_frame;refine Rg.lr 52 (Rg.exec_load (v:=.int .i64 ((m:Nat):Int)) _ _ rfl ⟨w1.heap.size,0,none⟩ rfl (run_loadInt H0.out.cell)) ?_;go_frame;refine Rg.lr 53 (exec_bin (R:=.int .i64 (((n:Nat):Int)+((m:Nat):Int))) .add _ _ _ rfl rfl rfl (b_add _ (by omega) (by omega))) ?_;go_frame
   refine Rg.lm 54 (.slice ta PL.length tc) ?_;go_frame;have HTD:=ι FT.out.lt;have HWS:=ι KT.out.size;refine Rg.lk 55 (exec_fn 120 _ _ _ rfl rfl rfl (Kycl2 _ _)) ?_;refine (rMake_any _ _ _ wd HRP.out).mono ?_;rintro e1 w204 ⟨cv,rfl,hcv,hb⟩;rw [hmk.out] at hcv ⊢;obtain ⟨e1,oa1,on1,oc1,ra1,rn1,rc1,rfl⟩:=hcv.ans.shape;refine ⟨_,rfl,?_⟩;go_frame;replace G0:=ι (G0.out.below hb);replace G1:=ι (G1.out.below hb);replace H0:=ι (H0.out.below hb);replace H1:=ι (H1.out.below hb);replace HRP:=ι (HRP.out.below hb);replace FT:=ι (FT.out.below hb);replace KT:=ι (Rg.acc KT.out hb);clear hb;have CV:=ι hcv;refine Rg.lm 48 (.tuple #[(.agg #[.int .i64 e1,.slice oa1 on1 oc1,.slice ra1 rn1 rc1]),.int .i64 mk]) ?_;go_frame;refine Rg.lr 56 (exec_extract (v:=(.agg #[.int .i64 e1,.slice oa1 on1 oc1,.slice ra1 rn1 rc1])) _ _ rfl rfl rfl) ?_;go_frame;refine Rg.lr 57 (exec_extract (v:=.int .i64 mk) _ _ rfl rfl rfl) ?_;go_frame
   refine Rg.lr 9 (exec_allocC rfl) ?_;go_frame;refine Rg.list_skip none rfl rfl (Rg.exec_store _ _ _ rfl _ rfl _ rfl (run_storeC _ _ _ _ _ _ _ (Tri.new w204 (.int .i64 0) (.slice none 0 0) (.slice none 0 0)))) ?_;go_frame;have htn:=(Tri.new w204 (.int .i64 0) (.slice none 0 0) (.slice none 0 0)).set (.int .i64 e1) (.slice oa1 on1 oc1) (.slice ra1 rn1 rc1);have hb:=((((Below.refl w204.heap.size w204).alloc (Nat.le_refl _) (.cells #[.int .i64 0,.slice none 0 0,.slice none 0 0] 54)).setCell (p:=⟨w204.heap.size,0,none⟩) (Nat.le_refl _) (.int .i64 e1)).setCell (p:=⟨w204.heap.size,1,none⟩) (Nat.le_refl _) (.slice oa1 on1 oc1)).setCell (p:=⟨w204.heap.size,2,none⟩) (Nat.le_refl _) (.slice ra1 rn1 rc1);generalize (((w204.alloc (.cells #[.int .i64 0,.slice none 0 0,.slice none 0 0] 54)).setCell ⟨w204.heap.size,0,none⟩ (.int .i64 e1)).setCell ⟨w204.heap.size,1,none⟩ (.slice oa1 on1 oc1)).setCell ⟨w204.heap.size,2,none⟩ (.slice ra1 rn1 rc1)=w205 at *
   replace G0:=ι (G0.out.below hb);replace G1:=ι (G1.out.below hb);replace H0:=ι (H0.out.below hb);replace H1:=ι (H1.out.below hb);replace HRP:=ι (HRP.out.below hb);replace FT:=ι (FT.out.below hb);replace CV:=ι (CV.out.below hb);replace KT:=ι (Rg.acc KT.out hb);clear hb;have S1:=ι htn;clear htn;refine Rg.la 10 (.int .i64 mk) ?_;go_frame;clear hcv;go_upto_region 12 with (fail);refine Rg.wl ?_;refine Rg.lr 58 (Rg.exec_load (v:=(.agg #[.int .i64 e1,.slice oa1 on1 oc1,.slice ra1 rn1 rc1])) _ _ rfl ⟨w204.heap.size,0,none⟩ rfl (run_loadC3 S1.out.c0 S1.out.c1 S1.out.c2)) ?_;go_frame;refine Rg.list_skip none rfl rfl (Rg.exec_store _ _ _ rfl _ rfl _ rfl (run_storeC _ _ _ _ _ _ _ FT.out)) ?_;go_frame;have htt:=FT.out.set (.int .i64 e1) (.slice oa1 on1 oc1) (.slice ra1 rn1 rc1);have hkp:=Rg.Kp.trans (Rg.Kp.trans (Rg.Kp.of_setCell (M:=fun z=>z=w2.heap.size) (w:=w205) (a:=⟨w2.heap.size,0,none⟩) (v:=.int .i64 e1) rfl) (Rg.Kp.of_setCell (M:=fun z=>z=w2.heap.size) (a:=⟨w2.heap.size,1,none⟩) (v:=.slice oa1 on1 oc1) rfl) (fun _ _ e=>e)) (Rg.Kp.of_setCell (M:=fun z=>z=w2.heap.size) (a:=⟨w2.heap.size,2,none⟩) (v:=.slice ra1 rn1 rc1) rfl) (fun _ _ e=>e)
   have hkf:=((KT.out.setCell (p:=⟨w2.heap.size,0,none⟩) HTDL.out (.int .i64 e1)).setCell (p:=⟨w2.heap.size,1,none⟩) HTDL.out (.slice oa1 on1 oc1)).setCell (p:=⟨w2.heap.size,2,none⟩) HTDL.out (.slice ra1 rn1 rc1);have hcf:=(CV.out.kp hkp (fun z hz=>by have:=HTD.out; omega)).mono HWS.out;generalize ((w205.setCell ⟨w2.heap.size,0,none⟩ (.int .i64 e1)).setCell ⟨w2.heap.size,1,none⟩ (.slice oa1 on1 oc1)).setCell ⟨w2.heap.size,2,none⟩ (.slice ra1 rn1 rc1)=w99 at *;have HTT:=ι htt;have HFI:=ι (show PpPost (((n:Nat):Int)+((m:Nat):Int)) (prL L M) w (.returned (.agg #[.int .i64 e1,.slice oa1 on1 oc1,.slice ra1 rn1 rc1])) w99 from ⟨_,rfl,by rw [hPL.out,hmk.out]; exact hcf,hkf⟩);clear htt hkp hkf hcf;go_wp2;exact bodyPost_ret (results_cellC rfl _ rfl HTT.out) rfl HFI.out

theorem Kzcl0 (args:Array Value) (w:World):(callFunc 205 args).run Tryz.prog w=.ok (.enter 205 args) w:=by kernel_rfl
theorem Kzcl1 (args:Array Value) (w:World):(callFunc 311 args).run Tryz.prog w=.ok (.enter 311 args) w:=by kernel_rfl
theorem Kzcl2 (args:Array Value) (w:World):(callFunc 312 args).run Tryz.prog w=.ok (.enter 312 args) w:=by kernel_rfl
theorem Kzcl3 (args:Array Value) (w:World):(callFunc 272 args).run Tryz.prog w=.ok (.enter 272 args) w:=by kernel_rfl
theorem PcF.pos {D:Int} {ll:List (List Int)} {N:Nat} {gs:List (List Nat)} (hp:PcF D ll N gs):∀ i,i<N→1≤((pO D ll).getD i []).length:=fun i hiN=>by
 have hi:i<(pOR D ll).1.length:=by rw [hp.ch.lenO]; exact hiN
 have hm:i∈(pOR D ll).1.getD i []:=(hp.ch.orb i i hiN).2 ⟨Ma.oneN N,⟨.one,Cm.Fx.one (by omega)⟩,Cm.ap_one hiN⟩;rw [List.getD_eq_getElem?_getD,List.getElem?_eq_getElem hi] at hm;unfold pO;rw [List.getD_eq_getElem?_getD,List.getElem?_map,List.getElem?_eq_getElem hi];simp only [Option.map_some,Option.getD_some,Ma.len_ofN];exact List.length_pos_of_mem hm
theorem hpairs_ok {n m:Nat} {A B:List (List Nat)} {gv hv:Value} {L M:List (List Int)} {w:World} (h:Rg.Rows w gv L) (h':Rg.Rows w hv M) (hm:HomG ((n:Nat):Int) ((m:Nat):Int) L M n m A B) :
  Calls Tryz.prog 205 #[.agg #[.int .i64 ((n:Nat):Int),gv],.agg #[.int .i64 ((m:Nat):Int),hv]] w fun ed w'=>∃ oa oc ra rc,ed=.returned (.agg #[.int .i64 (((n:Nat):Int)+((m:Nat):Int)),.slice oa (n+m) oc,.slice ra (n+m) rc])∧ChEqR w' (.slice oa (n+m) oc) (.slice ra (n+m) rc) (pO (((n:Nat):Int)+((m:Nat):Int)) (prL L M)) (pR (((n:Nat):Int)+((m:Nat):Int)) (prL L M))∧(∃ N gs,PcF (((n:Nat):Int)+((m:Nat):Int)) (prL L M) N gs)∧Below w.heap.size w w':=by
 refine (hpairs_any h h' hm).mono ?_;rintro ed w' ⟨cv,rfl,h1,h2⟩;rw [hm.mk0] at h1;obtain ⟨oa,oc,ra,rc,rfl,h3,N,gs,h4⟩:=h1.ans.pc
 have hN:N=n+m:=by have:=h4.dn; omega
 have e1:(pO (((n:Nat):Int)+((m:Nat):Int)) (prL L M)).length=n+m:=by rw [h4.lenO,hN]
 have e2:(pR (((n:Nat):Int)+((m:Nat):Int)) (prL L M)).length=n+m:=by rw [h4.lenR,hN]
 rw [e1,e2] at h3 ⊢;exact ⟨oa,oc,ra,rc,rfl,h3,⟨N,gs,h4⟩,h2⟩
theorem his_any {n m:Nat} {A B:List (List Nat)} {gv hv:Value} {L M:List (List Int)} {w:World} (h:Rg.Rows w gv L) (h':Rg.Rows w hv M) (hm:HomG ((n:Nat):Int) ((m:Nat):Int) L M n m A B) :
  Calls Tryz.prog 312 #[.agg #[.int .i64 ((n:Nat):Int),gv],.agg #[.int .i64 ((m:Nat):Int),hv]] w (DfPost (dfB n (pO (((n:Nat):Int)+((m:Nat):Int)) (prL L M))) w):=by
 obtain ⟨ga,gc,rfl,-⟩:=h.shape;obtain ⟨ha,hc,rfl,-⟩:=h'.shape;have HG:=ι h;have HH:=ι h';have K:=ι (Below.refl w.heap.size w);clear h h';have HM:=ι hm;have HNM:=ι hm.nm;clear hm
 go_enter Tryz.func312,Tryz.ntmps312
 go_upto_region 0 with (fail);refine Rg.wl ?_;have hbx:=box2t w (.int .i64 ((n:Nat):Int)) (.slice ga L.length gc) 24;refine Rg.lr 2 (Rg.exec_box _ _ rfl rfl) ?_;go_frame;have hb:=(Below.refl w.heap.size w).alloc (Nat.le_refl _) (.cells #[.int .i64 ((n:Nat):Int),.slice ga L.length gc] 24);generalize w.alloc (.cells #[.int .i64 ((n:Nat):Int),.slice ga L.length gc] 24)=w1 at *;replace HG:=ι (HG.out.below hb);replace HH:=ι (HH.out.below hb);replace K:=ι (Rg.acc K.out hb);clear hb;have G0:=ι hbx.1;have G1:=ι hbx.2;clear hbx;have hbx:=box2t w1 (.int .i64 ((m:Nat):Int)) (.slice ha M.length hc) 24;refine Rg.lr 3 (Rg.exec_box _ _ rfl rfl) ?_;go_frame;have hb:=(Below.refl w1.heap.size w1).alloc (Nat.le_refl _) (.cells #[.int .i64 ((m:Nat):Int),.slice ha M.length hc] 24);generalize w1.alloc (.cells #[.int .i64 ((m:Nat):Int),.slice ha M.length hc] 24)=w2 at *
 replace HG:=ι (HG.out.below hb);replace HH:=ι (HH.out.below hb);replace G0:=ι (G0.out.below hb);replace G1:=ι (G1.out.below hb);replace K:=ι (Rg.acc K.out hb);clear hb;have H0:=ι hbx.1;have H1:=ι hbx.2;clear hbx;refine Rg.la 4 (.bool false) ?_;go_frame;go_upto_region 1 with (fail);refine Rg.wl ?_;refine Rg.lr 7 (Rg.exec_load (v:=.agg #[.int .i64 ((n:Nat):Int),.slice ga L.length gc]) _ _ rfl ⟨w.heap.size,0,none⟩ rfl (run_loadG G0.out.cell G1.out.cell)) ?_;go_frame;refine Rg.lr 8 (Rg.exec_load (v:=.agg #[.int .i64 ((m:Nat):Int),.slice ha M.length hc]) _ _ rfl ⟨w1.heap.size,0,none⟩ rfl (run_loadG H0.out.cell H1.out.cell)) ?_;go_frame;refine Rg.lk 9 (exec_fn 205 _ _ _ rfl rfl rfl (Kzcl0 _ _)) ?_;refine (hpairs_ok HG.out HH.out HM.out).mono ?_;rintro e1 w3 ⟨oa,oc,ra,rc,rfl,hce,hpx,hb⟩;obtain ⟨N,gs,hpc⟩:=hpx;have HPC:=ι hpc;clear hpc;refine ⟨_,rfl,?_⟩
 go_frame;replace HG:=ι (HG.out.below hb);replace HH:=ι (HH.out.below hb);replace G0:=ι (G0.out.below hb);replace G1:=ι (G1.out.below hb);replace H0:=ι (H0.out.below hb);replace H1:=ι (H1.out.below hb);replace K:=ι (Rg.acc K.out hb);clear hb;have CE:=ι hce;refine Rg.lr 5 (exec_allocC rfl) ?_;go_frame;refine Rg.list_skip none rfl rfl (Rg.exec_store _ _ _ rfl _ rfl _ rfl (run_storeC _ _ _ _ _ _ _ (Tri.new w3 (.int .i64 0) (.slice none 0 0) (.slice none 0 0)))) ?_;go_frame;have htn:=(Tri.new w3 (.int .i64 0) (.slice none 0 0) (.slice none 0 0)).set (.int .i64 (((n:Nat):Int)+((m:Nat):Int))) (.slice oa (n+m) oc) (.slice ra (n+m) rc);have hb:=((((Below.refl w3.heap.size w3).alloc (Nat.le_refl _) (.cells #[.int .i64 0,.slice none 0 0,.slice none 0 0] 54)).setCell (p:=⟨w3.heap.size,0,none⟩) (Nat.le_refl _) (.int .i64 (((n:Nat):Int)+((m:Nat):Int)))).setCell (p:=⟨w3.heap.size,1,none⟩) (Nat.le_refl _) (.slice oa (n+m) oc)).setCell (p:=⟨w3.heap.size,2,none⟩) (Nat.le_refl _) (.slice ra (n+m) rc)
 generalize (((w3.alloc (.cells #[.int .i64 0,.slice none 0 0,.slice none 0 0] 54)).setCell ⟨w3.heap.size,0,none⟩ (.int .i64 (((n:Nat):Int)+((m:Nat):Int)))).setCell ⟨w3.heap.size,1,none⟩ (.slice oa (n+m) oc)).setCell ⟨w3.heap.size,2,none⟩ (.slice ra (n+m) rc)=w4 at *;replace HG:=ι (HG.out.below hb);replace HH:=ι (HH.out.below hb);replace G0:=ι (G0.out.below hb);replace G1:=ι (G1.out.below hb);replace H0:=ι (H0.out.below hb);replace H1:=ι (H1.out.below hb);replace CE:=ι (CE.out.below hb);replace K:=ι (Rg.acc K.out hb);clear hb;have S1:=ι htn;clear htn;go_upto_region 2 with (fail);refine Rg.wl ?_;refine Rg.lr 10 (exec_fieldG0 _ rfl rfl) ?_;go_frame;refine Rg.lr 11 (Rg.exec_load (v:=.int .i64 ((n:Nat):Int)) _ _ rfl ⟨w.heap.size,0,none⟩ rfl (run_loadInt G0.out.cell)) ?_;go_frame;refine Rg.la 6 (.int .i64 ((n:Nat):Int)) ?_;go_frame;clear hce
 obtain ⟨OO,hOO⟩:∃ l,Hid (pO (((n:Nat):Int)+((m:Nat):Int)) (prL L M)=l):=⟨_,ι rfl⟩;have HON:=ι (show OO.length=n+m by rw [← hOO.out,HPC.out.lenO]; have:=HPC.out.dn; omega);have HPOS:=ι (show ∀ i,i<n+m→1≤(OO.getD i []).length by rw [← hOO.out]; intro i hi; exact HPC.out.pos i (by have:=HPC.out.dn; omega));rw [hOO.out] at CE ⊢;have CO:=ι CE.out.1;have K1:=ι (Below.refl w4.heap.size w4);have HS:=ι (show ∀ i (hi:n+i<OO.length),i<0→OO[n+i].length≤1 from fun i _ h=>absurd h (Nat.not_lt_zero _));go_wp2
 go_loopw [6] (fun iv wr=>∃ i:Nat,iv=.int .i64 (((n+i):Nat):Int)∧i≤m∧Hid (∀ j (hj:n+j<OO.length),j<i→OO[n+j].length≤1)∧Hid (Below w4.heap.size w4 wr)) (fun iv _=>n+m - (intOf iv).toNat)
 case atStart=>exact ⟨0,rfl,Nat.zero_le _,HS,K1⟩
 case round =>
  clear K1 HS;obtain ⟨i,rfl,hi,HS,K1⟩:=hrel;generalize wr=wd at *;have hnm:n+m≤64:=HNM.out;have KT:=ι (show Below w.heap.size w wd from K.out.trans (K1.out.mono K.out.size))
  by_cases him:i<m
  case neg =>
   have HV:=ι (show dfB n OO=true from dfB_yes (fun j hj=>HS.out j hj (by have:=HON.out; omega)));go_upto_region 3 with (fail);refine Rg.wl ?_;refine Rg.lm 12 (.int .i64 (((n+i):Nat):Int)) ?_;go_frame;refine Rg.lr 13 (exec_field _ rfl rfl (chF0 _ _)) ?_;go_frame;refine Rg.lr 14 (Rg.exec_load (v:=.int .i64 (((n:Nat):Int)+((m:Nat):Int))) _ _ rfl ⟨w3.heap.size,0,none⟩ rfl (run_loadInt ((Below.cell (p:=⟨w3.heap.size,0,none⟩) K1.out S1.out.lt).trans S1.out.c0))) ?_;go_frame;refine Rg.lr 15 (exec_bin (R:=.bool false) .lss _ _ _ rfl rfl rfl (b_lss _ Rg.dF)) ?_;go_frame;go_upto_region 7 with (fail);refine Rg.wl ?_;refine Rg.la 4 (.bool true) ?_;go_frame;go_wp2;go_ret;exact ⟨by rw [hOO.out,HV.out]; rfl,KT.out⟩
  case pos =>
   have HIM:=ι him;have HNI:=ι (show n+i<OO.length by have:=HON.out; omega)
   have hnim:n+i<n+m:=by omega
   obtain ⟨ob,oo,ua,uc,e1,hob,hoc,hoi⟩:=rowsI_get CO.out HNI.out;subst e1;obtain ⟨l,hll⟩:∃ l,Hid (OO[n+i]'HNI.out=l):=⟨_,ι rfl⟩;rw [hll.out] at hoc hoi;have CU:=ι (CL.mk hoc hob)
   have hl1:1≤l.length:=by
    have h5:=HPOS.out (n+i) hnim;rw [List.getD_eq_getElem?_getD,List.getElem?_eq_getElem HNI.out,Option.getD_some,hll.out] at h5;exact h5
   clear hoc hob hoi
   by_cases h1:1<l.length
   case pos =>
    have HV:=ι (show dfB n OO=false from dfB_no HNI.out (by rw [hll.out]; exact h1));go_upto_region 3 with (fail);refine Rg.wl ?_;refine Rg.lm 12 (.int .i64 (((n+i):Nat):Int)) ?_;go_frame;refine Rg.lr 13 (exec_field _ rfl rfl (chF0 _ _)) ?_;go_frame;refine Rg.lr 14 (Rg.exec_load (v:=.int .i64 (((n:Nat):Int)+((m:Nat):Int))) _ _ rfl ⟨w3.heap.size,0,none⟩ rfl (run_loadInt ((Below.cell (p:=⟨w3.heap.size,0,none⟩) K1.out S1.out.lt).trans S1.out.c0))) ?_;go_frame;refine Rg.lr 15 (exec_bin (R:=.bool true) .lss _ _ _ rfl rfl rfl (b_lss _ Rg.dT)) ?_;go_frame;go_upto_region 5 with (fail);refine Rg.wl ?_;refine Rg.lr 18 (exec_field _ rfl rfl (chF1 _ _)) ?_;go_frame;refine Rg.lr 19 (Rg.exec_load (v:=.slice (some ⟨ob,oo,none⟩) (n+m) oc) _ _ rfl ⟨w3.heap.size,1,none⟩ rfl (Rg.run_loadSl _ _ Tryz.underlying27 ((Below.cell (p:=⟨w3.heap.size,1,none⟩) K1.out S1.out.lt).trans S1.out.c1))) ?_;go_frame
    refine Rg.lm 20 (.int .i64 (((n+i):Nat):Int)) ?_;go_frame;refine Rg.lr 21 (exec_indexS slIntss _ _ rfl ob (oo) ((n+m)) oc ((n+i)) rfl rfl (by omega)) ?_;go_frame;refine Rg.lr 22 (Rg.exec_load (v:=.slice ua l.length uc) _ _ rfl ⟨ob,oo+(n+i),none⟩ rfl (Rg.run_loadSl _ _ Tryz.underlying36 ((Below.cell (p:=⟨ob,oo+(n+i),none⟩) K1.out CU.out.lt).trans CU.out.cell))) ?_;go_frame;refine Rg.lr 23 (exec_len _ _ _ rfl Tryz.underlying36 _ _ _ rfl) ?_;go_frame;refine Rg.lr 24 (exec_bin (R:=.bool true) .neq _ _ _ rfl rfl rfl (b_neqB _ Rg.dT)) ?_;go_frame;go_upto_region 6 with (fail);refine Rg.wl ?_;refine Rg.la 4 (.bool false) ?_;go_frame;go_wp2;go_ret;exact ⟨by rw [hOO.out,HV.out]; rfl,KT.out⟩
   case neg =>
    have HS2:=ι (show ∀ j (hj:n+j<OO.length),j<i+1→OO[n+j].length≤1 from fun j hj h=>by
     by_cases e:j=i
     ·subst e; rw [hll.out]; omega
     ·exact HS.out j hj (by omega))
    go_upto_region 3 with (fail);refine Rg.wl ?_;refine Rg.lm 12 (.int .i64 (((n+i):Nat):Int)) ?_;go_frame;refine Rg.lr 13 (exec_field _ rfl rfl (chF0 _ _)) ?_;go_frame;refine Rg.lr 14 (Rg.exec_load (v:=.int .i64 (((n:Nat):Int)+((m:Nat):Int))) _ _ rfl ⟨w3.heap.size,0,none⟩ rfl (run_loadInt ((Below.cell (p:=⟨w3.heap.size,0,none⟩) K1.out S1.out.lt).trans S1.out.c0))) ?_;go_frame;refine Rg.lr 15 (exec_bin (R:=.bool true) .lss _ _ _ rfl rfl rfl (b_lss _ Rg.dT)) ?_;go_frame;go_upto_region 5 with (fail);refine Rg.wl ?_;refine Rg.lr 18 (exec_field _ rfl rfl (chF1 _ _)) ?_;go_frame;refine Rg.lr 19 (Rg.exec_load (v:=.slice (some ⟨ob,oo,none⟩) (n+m) oc) _ _ rfl ⟨w3.heap.size,1,none⟩ rfl (Rg.run_loadSl _ _ Tryz.underlying27 ((Below.cell (p:=⟨w3.heap.size,1,none⟩) K1.out S1.out.lt).trans S1.out.c1))) ?_;go_frame;refine Rg.lm 20 (.int .i64 (((n+i):Nat):Int)) ?_;go_frame
    refine Rg.lr 21 (exec_indexS slIntss _ _ rfl ob (oo) ((n+m)) oc ((n+i)) rfl rfl (by omega)) ?_;go_frame;refine Rg.lr 22 (Rg.exec_load (v:=.slice ua l.length uc) _ _ rfl ⟨ob,oo+(n+i),none⟩ rfl (Rg.run_loadSl _ _ Tryz.underlying36 ((Below.cell (p:=⟨ob,oo+(n+i),none⟩) K1.out CU.out.lt).trans CU.out.cell))) ?_;go_frame;refine Rg.lr 23 (exec_len _ _ _ rfl Tryz.underlying36 _ _ _ rfl) ?_;go_frame;refine Rg.lr 24 (exec_bin (R:=.bool false) .neq _ _ _ rfl rfl rfl (b_neqB _ Rg.dF)) ?_;go_frame;go_upto_region 4 with (fail);refine Rg.wl ?_;refine Rg.lm 16 (.int .i64 (((n+i):Nat):Int)) ?_;go_frame;refine Rg.lr 17 (exec_bin (R:=.int .i64 (((n+(i+1)):Nat):Int)) .add _ _ _ rfl rfl rfl (b_add _ (by omega) (by omega))) ?_;go_frame;refine Rg.lr 6 (Rg.exec_assign (v:=.int .i64 (((n+(i+1)):Nat):Int)) _ rfl rfl) ?_;go_frame;go_wp2
    go_roundw
    case rel=>exact ⟨i+1,by go_num,HIM.out,HS2,K1⟩
    case measure=>simp [intOf]; have:=HIM.out; omega
theorem hIs_any {d e:Int} {gv hv:Value} {L M:List (List Int)} {w:World} (h:Rg.Rows w gv L) (h':Rg.Rows w hv M) :
  Calls Tryz.prog 272 #[.agg #[.int .i64 d,gv],.agg #[.int .i64 e,hv]] w (IsPost d e L M w):=by
 obtain ⟨ga,gc,rfl,-⟩:=h.shape;obtain ⟨ha,hc,rfl,-⟩:=h'.shape;have HG:=ι h;have HH:=ι h';have K:=ι (Below.refl w.heap.size w);clear h h'
 go_enter Tryz.func272,Tryz.ntmps272
 go_upto_region 0 with (fail);refine Rg.wl ?_;have hbx:=box2t w (.int .i64 d) (.slice ga L.length gc) 24;refine Rg.lr 2 (Rg.exec_box _ _ rfl rfl) ?_;go_frame;have hb:=(Below.refl w.heap.size w).alloc (Nat.le_refl _) (.cells #[.int .i64 d,.slice ga L.length gc] 24);generalize w.alloc (.cells #[.int .i64 d,.slice ga L.length gc] 24)=w1 at *;replace HG:=ι (HG.out.below hb);replace HH:=ι (HH.out.below hb);replace K:=ι (Rg.acc K.out hb);clear hb;have G0:=ι hbx.1;have G1:=ι hbx.2;clear hbx;have hbx:=box2t w1 (.int .i64 e) (.slice ha M.length hc) 24;refine Rg.lr 3 (Rg.exec_box _ _ rfl rfl) ?_;go_frame;have hb:=(Below.refl w1.heap.size w1).alloc (Nat.le_refl _) (.cells #[.int .i64 e,.slice ha M.length hc] 24);generalize w1.alloc (.cells #[.int .i64 e,.slice ha M.length hc] 24)=w2 at *;replace HG:=ι (HG.out.below hb);replace HH:=ι (HH.out.below hb);replace G0:=ι (G0.out.below hb)
 replace G1:=ι (G1.out.below hb);replace K:=ι (Rg.acc K.out hb);clear hb;have H0:=ι hbx.1;have H1:=ι hbx.2;clear hbx;refine Rg.la 4 (.bool false) ?_;go_frame;refine Rg.la 5 (.int .i64 0) ?_;go_frame;obtain ⟨c,hc0⟩:∃ c,Hid (homC d e L M=c):=⟨_,ι rfl⟩;go_upto_region 1 with (fail);refine Rg.wl ?_;refine Rg.lr 7 (Rg.exec_load (v:=.agg #[.int .i64 d,.slice ga L.length gc]) _ _ rfl ⟨w.heap.size,0,none⟩ rfl (run_loadG G0.out.cell G1.out.cell)) ?_;go_frame;refine Rg.lr 8 (Rg.exec_load (v:=.agg #[.int .i64 e,.slice ha M.length hc]) _ _ rfl ⟨w1.heap.size,0,none⟩ rfl (run_loadG H0.out.cell H1.out.cell)) ?_;go_frame;refine Rg.lk 9 (exec_fn 311 _ _ _ rfl rfl rfl (Kzcl1 _ _)) ?_;refine (hcheck_any HG.out HH.out).mono ?_;rintro e1 w3 ⟨rfl,hb⟩;rw [hc0.out];refine ⟨_,rfl,?_⟩;go_frame;replace HG:=ι (HG.out.below hb);replace HH:=ι (HH.out.below hb);replace G0:=ι (G0.out.below hb)
 replace G1:=ι (G1.out.below hb);replace H0:=ι (H0.out.below hb);replace H1:=ι (H1.out.below hb);replace K:=ι (Rg.acc K.out hb);clear hb;refine Rg.la 6 (.int .i64 c) ?_;go_frame
 by_cases h0:c=0
 case neg =>
  have HR:=ι (show isB d e L M=false by unfold isB; rw [if_neg (by rw [hc0.out]; exact h0)]);go_upto_region 2 with (fail);refine Rg.wl ?_;refine Rg.lm 10 (.int .i64 c) ?_;go_frame;refine Rg.lr 11 (exec_bin (R:=.bool true) .neq _ _ _ rfl rfl rfl (b_neqB _ (decide_eq_true h0))) ?_;go_frame;go_upto_region 3 with (fail);refine Rg.wl ?_;refine Rg.lm 12 (.int .i64 c) ?_;go_frame;refine Rg.la 4 (.bool false) ?_;go_frame;refine Rg.la 5 (.int .i64 c) ?_;go_frame;go_wp2
  go_ret2
  exact ⟨by rw [HR.out,hc0.out]; rfl,K.out⟩
 case pos =>
  have HZ:=ι (hc0.out.trans h0);obtain ⟨n,m,A,B,hmg⟩:=homC_get HZ.out;obtain rfl:=hmg.dn;obtain rfl:=hmg.em;have HMG:=ι hmg;obtain ⟨bd,hbd⟩:∃ b,Hid (dfB n (pO (((n:Nat):Int)+((m:Nat):Int)) (prL L M))=b):=⟨_,ι rfl⟩;have HR:=ι (show isB ((n:Nat):Int) ((m:Nat):Int) L M=bd by unfold isB; rw [if_pos HZ.out,Int.toNat_natCast,hbd.out]);clear hmg;go_upto_region 2 with (fail);refine Rg.wl ?_;refine Rg.lm 10 (.int .i64 c) ?_;go_frame;refine Rg.lr 11 (exec_bin (R:=.bool false) .neq _ _ _ rfl rfl rfl (b_neqB _ (decide_eq_false (fun q=>q h0)))) ?_;go_frame;go_upto_region 4 with (fail);refine Rg.wl ?_;refine Rg.lr 13 (Rg.exec_load (v:=.agg #[.int .i64 ((n:Nat):Int),.slice ga L.length gc]) _ _ rfl ⟨w.heap.size,0,none⟩ rfl (run_loadG G0.out.cell G1.out.cell)) ?_;go_frame;refine Rg.lr 14 (Rg.exec_load (v:=.agg #[.int .i64 ((m:Nat):Int),.slice ha M.length hc]) _ _ rfl ⟨w1.heap.size,0,none⟩ rfl (run_loadG H0.out.cell H1.out.cell)) ?_;go_frame
  refine Rg.lk 15 (exec_fn 312 _ _ _ rfl rfl rfl (Kzcl2 _ _)) ?_;refine (his_any HG.out HH.out HMG.out).mono ?_;rintro e1 w14 ⟨rfl,hb⟩;rw [hbd.out];refine ⟨_,rfl,?_⟩;go_frame;replace HG:=ι (HG.out.below hb);replace HH:=ι (HH.out.below hb);replace G0:=ι (G0.out.below hb);replace G1:=ι (G1.out.below hb);replace H0:=ι (H0.out.below hb);replace H1:=ι (H1.out.below hb);replace K:=ι (Rg.acc K.out hb);clear hb;refine Rg.la 4 (.bool bd) ?_;go_frame;refine Rg.la 5 (.int .i64 ((0:Nat):Int)) ?_;go_frame;go_wp2
  go_ret2
  exact ⟨by rw [HR.out,HZ.out]; rfl,K.out⟩
def VaPost (d e:Int) (L M:List (List Int)) (w:World) (ed:Ending) (w':World):Prop:=ed=.returned (.int .i64 (rtC d e L M))∧Below w.heap.size w w'
theorem hvalid_any {d e:Int} {gv hv:Value} {L M:List (List Int)} {w:World} (h:Rg.Rows w gv L) (h':Rg.Rows w hv M) :
  Calls Tryz.prog 204 #[.agg #[.int .i64 d,gv],.agg #[.int .i64 e,hv]] w (VaPost d e L M w):=by
 obtain ⟨ga,gc,rfl,-⟩:=h.shape;obtain ⟨ha,hc,rfl,-⟩:=h'.shape;have HG:=ι h;have HH:=ι h';have K:=ι (Below.refl w.heap.size w);clear h h'
 go_enter Tryz.func204,Tryz.ntmps204
 go_upto_region 0 with (fail);refine Rg.wl ?_;have hbx:=box2t w (.int .i64 d) (.slice ga L.length gc) 24;refine Rg.lr 2 (Rg.exec_box _ _ rfl rfl) ?_;go_frame;have hb:=(Below.refl w.heap.size w).alloc (Nat.le_refl _) (.cells #[.int .i64 d,.slice ga L.length gc] 24);generalize w.alloc (.cells #[.int .i64 d,.slice ga L.length gc] 24)=w1 at *;replace HG:=ι (HG.out.below hb);replace HH:=ι (HH.out.below hb);replace K:=ι (Rg.acc K.out hb);clear hb;have G0:=ι hbx.1;have G1:=ι hbx.2;clear hbx;have hbx:=box2t w1 (.int .i64 e) (.slice ha M.length hc) 24;refine Rg.lr 3 (Rg.exec_box _ _ rfl rfl) ?_;go_frame;have hb:=(Below.refl w1.heap.size w1).alloc (Nat.le_refl _) (.cells #[.int .i64 e,.slice ha M.length hc] 24);generalize w1.alloc (.cells #[.int .i64 e,.slice ha M.length hc] 24)=w2 at *;replace HG:=ι (HG.out.below hb);replace HH:=ι (HH.out.below hb);replace G0:=ι (G0.out.below hb)
 replace G1:=ι (G1.out.below hb);replace K:=ι (Rg.acc K.out hb);clear hb;have H0:=ι hbx.1;have H1:=ι hbx.2;clear hbx;refine Rg.la 4 (.int .i64 0) ?_;go_frame;obtain ⟨c,hc0⟩:∃ c,Hid (homC d e L M=c):=⟨_,ι rfl⟩;obtain ⟨bi,hbi⟩:∃ c,Hid (isB d e L M=c):=⟨_,ι rfl⟩;go_upto_region 1 with (fail);refine Rg.wl ?_;refine Rg.lr 8 (Rg.exec_load (v:=.agg #[.int .i64 d,.slice ga L.length gc]) _ _ rfl ⟨w.heap.size,0,none⟩ rfl (run_loadG G0.out.cell G1.out.cell)) ?_;go_frame;refine Rg.lr 9 (Rg.exec_load (v:=.agg #[.int .i64 e,.slice ha M.length hc]) _ _ rfl ⟨w1.heap.size,0,none⟩ rfl (run_loadG H0.out.cell H1.out.cell)) ?_;go_frame;refine Rg.lk 10 (exec_fn 272 _ _ _ rfl rfl rfl (Kzcl3 _ _)) ?_;refine (hIs_any HG.out HH.out).mono ?_;rintro e1 w3 ⟨rfl,hb⟩;rw [hbi.out,hc0.out];refine ⟨_,rfl,?_⟩;go_frame;replace HG:=ι (HG.out.below hb);replace HH:=ι (HH.out.below hb)
 replace G0:=ι (G0.out.below hb);replace G1:=ι (G1.out.below hb);replace H0:=ι (H0.out.below hb);replace H1:=ι (H1.out.below hb);replace K:=ι (Rg.acc K.out hb);clear hb;refine Rg.lm 7 (.tuple #[.bool bi,.int .i64 c]) ?_;go_frame;refine Rg.lr 11 (exec_extract (v:=.bool bi) _ _ rfl rfl rfl) ?_;go_frame;refine Rg.lr 12 (exec_extract (v:=.int .i64 c) _ _ rfl rfl rfl) ?_;go_frame;refine Rg.la 5 (.bool bi) ?_;go_frame;refine Rg.la 6 (.int .i64 c) ?_;go_frame
 by_cases h0:c=0
 case neg =>
  have HR:=ι (show rtC d e L M=c by rw [rtC_bad (by rw [hc0.out]; exact h0),hc0.out]);go_upto_region 2 with (fail);refine Rg.wl ?_;refine Rg.lm 13 (.int .i64 c) ?_;go_frame;refine Rg.lr 14 (exec_bin (R:=.bool false) .eql _ _ _ rfl rfl rfl (b_eql _ (decide_eq_false h0))) ?_;go_frame;refine Rg.lm 15 (.bool false) ?_;go_frame;refine listW_pass (some 16) (by kernel_rfl) rfl ?_;go_frame;refine listW_pass (some 17) (by kernel_rfl) rfl ?_;go_frame;refine Rg.lr 18 (exec_pickF (v:=.bool false) _ _ _ rfl rfl rfl) ?_;go_frame;go_upto_region 4 with (fail);refine Rg.wl ?_;refine Rg.lm 19 (.int .i64 c) ?_;go_frame;refine Rg.la 4 (.int .i64 c) ?_;go_frame;go_wp2;go_ret;exact ⟨by rw [HR.out]; rfl,K.out⟩
 case pos =>
  have HZ:=ι (hc0.out.trans h0);have HB:=ι (show dfB d.toNat (pO (d+e) (prL L M))=bi by rw [← hbi.out]; unfold isB; rw [if_pos HZ.out])
  cases bi
  case false =>
   have HR:=ι (rtC_no HZ.out HB.out);go_upto_region 2 with (fail);refine Rg.wl ?_;refine Rg.lm 13 (.int .i64 c) ?_;go_frame;refine Rg.lr 14 (exec_bin (R:=.bool true) .eql _ _ _ rfl rfl rfl (b_eql _ (decide_eq_true h0))) ?_;go_frame;refine Rg.lm 15 (.bool true) ?_;go_frame;refine Rg.lW 16 (Rg.xm (.bool false) _ rfl rfl) ?_;go_frame;refine Rg.lW 17 (exec_not _ _ false rfl rfl) ?_;go_frame;refine Rg.lr 18 (exec_pickT (v:=.bool true) _ _ _ rfl rfl rfl) ?_;go_frame;go_upto_region 3 with (fail);refine Rg.wl ?_;refine Rg.la 4 (.int .i64 13) ?_;go_frame;go_wp2;go_ret
   exact ⟨by rw [HR.out]; first | rfl | (rw [h0]; rfl) | (have:=h0; subst this; rfl),K.out⟩
  case true =>
   have HR:=ι (rtC_yes HZ.out HB.out);go_upto_region 2 with (fail);refine Rg.wl ?_;refine Rg.lm 13 (.int .i64 c) ?_;go_frame;refine Rg.lr 14 (exec_bin (R:=.bool true) .eql _ _ _ rfl rfl rfl (b_eql _ (decide_eq_true h0))) ?_;go_frame;refine Rg.lm 15 (.bool true) ?_;go_frame;refine Rg.lW 16 (Rg.xm (.bool true) _ rfl rfl) ?_;go_frame;refine Rg.lW 17 (exec_not _ _ true rfl rfl) ?_;go_frame;refine Rg.lr 18 (exec_pickT (v:=.bool false) _ _ _ rfl rfl rfl) ?_;go_frame;go_upto_region 4 with (fail);refine Rg.wl ?_;refine Rg.lm 19 (.int .i64 c) ?_;go_frame;refine Rg.la 4 (.int .i64 c) ?_;go_frame;go_wp2;go_ret
   exact ⟨by rw [HR.out]; first | rfl | (rw [h0]; rfl) | (have:=h0; subst this; rfl),K.out⟩
end Go.Proofs.YthehbckogieimaaGreat

namespace Go.Proofs.Cm
def LcI (H:List Nat→Prop) (x:List Nat) (i:Nat) (y:List Nat):Prop :=
 (∃ h,H h∧y=Ma.mulN h x)∧∀ h,H h→(∀ m,m<i→ap y m=ap (Ma.mulN h x) m)∨∃ j,j<i∧(∀ m,m<j→ap y m=ap (Ma.mulN h x) m)∧ap y j<ap (Ma.mulN h x) j
theorem LcI.start {n:Nat} {H:List Nat→Prop} (hH:IsG n H) {x:List Nat} (gx:Gd n x):LcI H x 0 x :=
 ⟨⟨Ma.oneN n,hH.one,(one_mul gx).symm⟩,fun _ _=>.inl fun _ h=>absurd h (Nat.not_lt_zero _)⟩
theorem LcI.gd {n i:Nat} {H:List Nat→Prop} (hH:IsG n H) {x y:List Nat} (gx:Gd n x) (h:LcI H x i y):Gd n y:=by
 obtain ⟨h0,hh0,rfl⟩:=h.1;exact gd_mul (hH.gd _ hh0) gx
theorem LcI.step {n:Nat} {H:List Nat→Prop} (hH:IsG n H) {O:List (List Nat)} {R:List (List (List Nat))} (hc:IsChain n H O R) {i k:Nat} {x y:List Nat} (gx:Gd n x) (hi:i<n) (h:LcI H x i y) (hk:k<(O.getD i []).length)
  (hq:∀ q∈O.getD i [],ap y ((O.getD i []).getD k 0)≤ap y q):LcI H x (i+1) (Ma.mulN ((R.getD i []).getD k []) y):=by
 have gy:=h.gd hH gx;obtain ⟨⟨h0,hh0,rfl⟩,h2⟩:=h;have hr:=(hc.rep i k hi hk).1;obtain ⟨u,hu⟩:∃ u,(R.getD i []).getD k []=u:=⟨_,rfl⟩;rw [hu] at hr ⊢;have gu:=hH.gd _ hr.1.1;have fu:=hr.1.2;have g0:=hH.gd h0 hh0
 have hlow:∀ m,m<i→ap (Ma.mulN u (Ma.mulN h0 x)) m=ap (Ma.mulN h0 x) m:=fun m hm=>by rw [ap_mul gu (by omega),fu m hm]
 refine ⟨⟨Ma.mulN u h0,hH.mul _ _ hr.1.1 hh0,(mul_assoc gu g0).symm⟩,fun h hh=>?_⟩
 rcases h2 h hh with h3 | ⟨j,hj,h4,h5⟩
 ·have gh:=hH.gd h hh
  have gz:=gd_mul gh gx
  have fg:Fx i (Ma.mulN (Ma.mulN h x) (Ma.invN (Ma.mulN h0 x))):=fun m hm=>by
   rw [ap_mul gz (by omega),← h3 m hm,ap_inv gy (by omega)]
  have eg:Ma.mulN (Ma.mulN h x) (Ma.invN (Ma.mulN h0 x))=Ma.mulN h (Ma.invN h0):=by
   refine gd_ext (n:=n) (gd_mul gz (gd_inv gy)).2 (gd_mul gh (gd_inv g0)).2 fun m hm=>?_;rw [ap_mul gz hm,ap_mul gh hm,ap_mul gh hm];have h1:=ap_lt gh hm;have h2':=ap_lt (gd_inv g0) h1
   have e:ap x (ap h m)=ap (Ma.mulN h0 x) (ap (Ma.invN h0) (ap h m)):=by rw [ap_mul g0 h2',ap_inv2 g0 h1]
   rw [e,ap_inv gy h2']
  have hgH:St H i (Ma.mulN (Ma.mulN h x) (Ma.invN (Ma.mulN h0 x))):=⟨by rw [eg]; exact hH.mul _ _ hh (hH.inv _ hh0),fg⟩;have hle:=hq _ ((hc.orb i _ hi).2 ⟨_,hgH,rfl⟩)
  have ez:ap (Ma.mulN h0 x) (ap (Ma.mulN (Ma.mulN h x) (Ma.invN (Ma.mulN h0 x))) i)=ap (Ma.mulN h x) i:=by
   rw [ap_mul gz hi,ap_inv2 gy (ap_lt gz hi)]
  rw [ez] at hle
  have ey:ap (Ma.mulN u (Ma.mulN h0 x)) i=ap (Ma.mulN h0 x) ((O.getD i []).getD k 0):=by rw [ap_mul gu hi,hr.2]
  rcases Nat.lt_or_eq_of_le hle with hlt | heq
  ·exact .inr ⟨i,by omega,fun m hm=>by rw [hlow m hm]; exact h3 m hm,by rw [ey]; exact hlt⟩
  ·exact .inl fun m hm=>by
    by_cases e:m=i
    ·subst e; rw [ey,heq]
    ·rw [hlow m (by omega)]; exact h3 m (by omega)
 ·exact .inr ⟨j,by omega,fun m hm=>by rw [hlow m (by omega)]; exact h4 m hm,by rw [hlow j hj]; exact h5⟩
def LstC (n:Nat) (H:List Nat→Prop) (x y:List Nat):Prop:=Lst n (fun z=>∃ h,H h∧z=Ma.mulN h x) y
theorem LcI.done {n:Nat} {H:List Nat→Prop} (hH:IsG n H) {x y:List Nat} (gx:Gd n x) (h:LcI H x n y):LstC n H x y:=by
 have gy:=h.gd hH gx;obtain ⟨h1,h2⟩:=h;refine ⟨h1,?_⟩;rintro z ⟨h0,hh0,rfl⟩
 rcases h2 h0 hh0 with h3 | h3
 ·exact .inl (gd_ext (n:=n) (gd_mul (hH.gd _ hh0) gx).2 gy.2 fun m hm=>(h3 m hm).symm)
 ·obtain ⟨j,hj,h4,h5⟩:=h3
  exact .inr ⟨j,hj,h4,h5⟩
end Go.Proofs.Cm

namespace Go.Proofs.YthehbckogieimaaGreat
open Go.RowKit
open Go.Proofs
open Go.Proofs.Ob
open Go.Proofs.Cm (Gd Gr IsChain)
attribute [local irreducible] Go.Calls Go.wpList
theorem bhY_step {m t:Nat} {x:List Int} (h:m+t<x.length):(bhY m x).take (t+1)=(bhY m x).take t++[x[m+t] - ((m:Nat):Int)]:=by
 have h2:t<(bhY m x).length:=by unfold bhY; rw [List.length_map,List.length_drop]; omega
 rw [List.take_add_one,List.getElem?_eq_getElem h2]
 congr 1
 unfold bhY;simp
theorem bhY_len {m n:Nat} {x:List Int} (h:x.length=m+n):(bhY m x).length=n:=by
 unfold bhY; rw [List.length_map,List.length_drop]; omega
def KnPost (n:Nat) (PL:List (List Int)) (w:World) (ed:Ending) (w':World):Prop:=∃ cv,ed=.returned cv∧ChAnsF w.heap.size w' ((n:Nat):Int) PL cv (mkchk ((n:Nat):Int) PL)∧Below w.heap.size w w'
theorem hkernel_any {n m:Nat} {A B:List (List Nat)} {gv hv:Value} {L M:List (List Int)} {w:World} (h:Rg.Rows w gv L) (h':Rg.Rows w hv M) (hm:HomG ((n:Nat):Int) ((m:Nat):Int) L M n m A B) :
  Calls Tryz.prog 134 #[.agg #[.int .i64 ((n:Nat):Int),gv],.agg #[.int .i64 ((m:Nat):Int),hv]] w (KnPost n (bhL m (pR (((m:Nat):Int)+((n:Nat):Int)) (prL M L))) w):=by
 obtain ⟨ga,gc,rfl,-⟩:=h.shape;obtain ⟨ha,hc,rfl,-⟩:=h'.shape;have HG:=ι h;have HH:=ι h';have K:=ι (Below.refl w.heap.size w);clear h h';have HM:=ι hm.swap;have HN1:=ι hm.n1;have HNM:=ι hm.nm;clear hm
 go_enter Tryz.func134,Tryz.ntmps134
 go_upto_region 0 with (fail);refine Rg.wl ?_;have hbx:=box2t w (.int .i64 ((n:Nat):Int)) (.slice ga L.length gc) 24;refine Rg.lr 2 (Rg.exec_box _ _ rfl rfl) ?_;go_frame;have hb:=(Below.refl w.heap.size w).alloc (Nat.le_refl _) (.cells #[.int .i64 ((n:Nat):Int),.slice ga L.length gc] 24);generalize w.alloc (.cells #[.int .i64 ((n:Nat):Int),.slice ga L.length gc] 24)=w1 at *;replace HG:=ι (HG.out.below hb);replace HH:=ι (HH.out.below hb);replace K:=ι (Rg.acc K.out hb);clear hb;have G0:=ι hbx.1;have G1:=ι hbx.2;clear hbx;have hbx:=box2t w1 (.int .i64 ((m:Nat):Int)) (.slice ha M.length hc) 24;refine Rg.lr 3 (Rg.exec_box _ _ rfl rfl) ?_;go_frame;have hb:=(Below.refl w1.heap.size w1).alloc (Nat.le_refl _) (.cells #[.int .i64 ((m:Nat):Int),.slice ha M.length hc] 24);generalize w1.alloc (.cells #[.int .i64 ((m:Nat):Int),.slice ha M.length hc] 24)=w2 at *
 replace HG:=ι (HG.out.below hb);replace HH:=ι (HH.out.below hb);replace G0:=ι (G0.out.below hb);replace G1:=ι (G1.out.below hb);replace K:=ι (Rg.acc K.out hb);clear hb;have H0:=ι hbx.1;have H1:=ι hbx.2;clear hbx;have HTDL:=ι (show w.heap.size≤w2.heap.size from K.out.size);have hnew:=Tri.new w2 (.int .i64 0) (.slice none 0 0) (.slice none 0 0);refine Rg.lr 4 (exec_allocC rfl) ?_;go_frame;have hb:=(Below.refl w2.heap.size w2).alloc (Nat.le_refl _) (.cells #[.int .i64 0,.slice none 0 0,.slice none 0 0] 54);generalize w2.alloc (.cells #[.int .i64 0,.slice none 0 0,.slice none 0 0] 54)=w3 at *;replace HG:=ι (HG.out.below hb);replace HH:=ι (HH.out.below hb);replace G0:=ι (G0.out.below hb);replace G1:=ι (G1.out.below hb);replace H0:=ι (H0.out.below hb);replace H1:=ι (H1.out.below hb);replace K:=ι (Rg.acc K.out hb);clear hb;have FT:=ι hnew;clear hnew;go_upto_region 1 with (fail)
 refine Rg.wl ?_;refine Rg.lr 13 (Rg.exec_load (v:=.agg #[.int .i64 ((m:Nat):Int),.slice ha M.length hc]) _ _ rfl ⟨w1.heap.size,0,none⟩ rfl (run_loadG H0.out.cell H1.out.cell)) ?_;go_frame;refine Rg.lr 14 (Rg.exec_load (v:=.agg #[.int .i64 ((n:Nat):Int),.slice ga L.length gc]) _ _ rfl ⟨w.heap.size,0,none⟩ rfl (run_loadG G0.out.cell G1.out.cell)) ?_;go_frame;refine Rg.lk 15 (exec_fn 205 _ _ _ rfl rfl rfl (Kzcl0 _ _)) ?_;refine (hpairs_ok HH.out HG.out HM.out).mono ?_;rintro e1 w4 ⟨oa,oc,ra,rc,rfl,hce,hpx,hb⟩;obtain ⟨N,gs,hpc⟩:=hpx;have HRP:=ι (HM.out.reps hpc);clear hpc;refine ⟨_,rfl,?_⟩;go_frame;replace HG:=ι (HG.out.below hb);replace HH:=ι (HH.out.below hb);replace G0:=ι (G0.out.below hb);replace G1:=ι (G1.out.below hb);replace H0:=ι (H0.out.below hb);replace H1:=ι (H1.out.below hb);replace FT:=ι (FT.out.below hb);replace K:=ι (Rg.acc K.out hb)
 clear hb;have CE:=ι hce;refine Rg.lr 5 (exec_allocC rfl) ?_;go_frame;refine Rg.list_skip none rfl rfl (Rg.exec_store _ _ _ rfl _ rfl _ rfl (run_storeC _ _ _ _ _ _ _ (Tri.new w4 (.int .i64 0) (.slice none 0 0) (.slice none 0 0)))) ?_;go_frame;have htn:=(Tri.new w4 (.int .i64 0) (.slice none 0 0) (.slice none 0 0)).set (.int .i64 (((m:Nat):Int)+((n:Nat):Int))) (.slice oa (m+n) oc) (.slice ra (m+n) rc);have hb:=((((Below.refl w4.heap.size w4).alloc (Nat.le_refl _) (.cells #[.int .i64 0,.slice none 0 0,.slice none 0 0] 54)).setCell (p:=⟨w4.heap.size,0,none⟩) (Nat.le_refl _) (.int .i64 (((m:Nat):Int)+((n:Nat):Int)))).setCell (p:=⟨w4.heap.size,1,none⟩) (Nat.le_refl _) (.slice oa (m+n) oc)).setCell (p:=⟨w4.heap.size,2,none⟩) (Nat.le_refl _) (.slice ra (m+n) rc);generalize (((w4.alloc (.cells #[.int .i64 0,.slice none 0 0,.slice none 0 0] 54)).setCell ⟨w4.heap.size,0,none⟩ (.int .i64 (((m:Nat):Int)+((n:Nat):Int)))).setCell ⟨w4.heap.size,1,none⟩ (.slice oa (m+n) oc)).setCell ⟨w4.heap.size,2,none⟩ (.slice ra (m+n) rc)=w5 at *
 replace HG:=ι (HG.out.below hb);replace HH:=ι (HH.out.below hb);replace G0:=ι (G0.out.below hb);replace G1:=ι (G1.out.below hb);replace H0:=ι (H0.out.below hb);replace H1:=ι (H1.out.below hb);replace FT:=ι (FT.out.below hb);replace CE:=ι (CE.out.below hb);replace K:=ι (Rg.acc K.out hb);clear hb;have S1:=ι htn;clear htn;clear hce;obtain ⟨RR,hRR⟩:∃ l,Hid (pR (((m:Nat):Int)+((n:Nat):Int)) (prL M L)=l):=⟨_,ι rfl⟩;rw [hRR.out] at HRP CE ⊢;have HRL:=ι HRP.out.len;obtain ⟨rb,ro,e1,-⟩:=CE.out.2.at' (k:=0) (by have:=HRL.out; have:=HN1.out; omega);subst e1;go_upto_region 2 with (fail);refine Rg.wl ?_;refine Rg.la 6 (.slice none 0 0) ?_;go_frame;go_upto_region 3 with (fail);refine Rg.wl ?_;refine Rg.lr 16 (exec_fieldG0 _ rfl rfl) ?_;go_frame;refine Rg.lr 17 (Rg.exec_load (v:=.int .i64 ((m:Nat):Int)) _ _ rfl ⟨w1.heap.size,0,none⟩ rfl (run_loadInt H0.out.cell)) ?_;go_frame
 refine Rg.la 7 (.int .i64 ((m:Nat):Int)) ?_;go_frame;have K1:=ι (Below.refl w5.heap.size w5);have HR2:=ι CE.out.2;have RP:=ι (show RowP w5.heap.size w5 (.slice none 0 0) (bhT m RR 0) from RowP.nil _ _);have HTL:=ι (fun i=>bhT_len (n:=m) (i:=i) (by have:=HRL.out; have:=HNM.out; omega) HRP.out.r64);clear CE HG HH;go_wp2
 go_loopw [6,7] (fun tv iv wr=>∃ i:Nat,iv=.int .i64 (((m+i):Nat):Int)∧i≤n∧Hid (RowP w5.heap.size wr tv (bhT m RR i))∧Hid (Below w5.heap.size w5 wr)) (fun _ iv _=>m+n - (intOf iv).toNat)
 case atStart=>exact ⟨0,rfl,Nat.zero_le _,RP,K1⟩
 case round =>
  clear K1 RP;obtain ⟨i,rfl,hi,RP,K1⟩:=hrel;generalize wr=wd at *;obtain ⟨ta,tc,rfl⟩:=RP.out.shape;have hnm:n+m≤64:=HNM.out
  by_cases hil:i<n
  case pos =>
   have HIL:=ι hil;have HNI:=ι (show m+i<RR.length by have:=HRL.out; omega);obtain ⟨rb',ro',er,hrb,u,hcu,hu⟩:=HR2.out.at' HNI.out
   injection er with er
   injection er with e5 e6
   subst e5 e6;obtain ⟨r,hr⟩:∃ r:List (List Int),Hid (RR[m+i]'HNI.out=r):=⟨_,ι rfl⟩;rw [hr.out] at hu;obtain ⟨ua,uc,rfl,-⟩:=hu.shape;have CU:=ι (CL.mk hcu hrb);have HU:=ι hu
   have hmem:r∈RR:=by rw [← hr.out]; exact List.getElem_mem _
   have HR64:=ι (HRP.out.r64 r hmem);have HXS:=ι (HRP.out.xl r hmem);have HTN:=ι (show bhT m RR (i+1)=bhT m RR i++r.map (bhY m) by rw [bhT_next HNI.out,hr.out]);clear hcu hrb hu hmem;go_upto_region 4 with (fail);refine Rg.wl ?_;refine Rg.lm 18 (.int .i64 (((m+i):Nat):Int)) ?_;go_frame;refine Rg.lr 19 (exec_field _ rfl rfl (chF0 _ _)) ?_;go_frame;refine Rg.lr 20 (Rg.exec_load (v:=.int .i64 (((m:Nat):Int)+((n:Nat):Int))) _ _ rfl ⟨w4.heap.size,0,none⟩ rfl (run_loadInt ((Below.cell (p:=⟨w4.heap.size,0,none⟩) K1.out S1.out.lt).trans S1.out.c0))) ?_;go_frame;refine Rg.lr 21 (exec_bin (R:=.bool true) .lss _ _ _ rfl rfl rfl (b_lss _ Rg.dT)) ?_;go_frame;go_upto_region 6 with (fail);refine Rg.wl ?_;refine Rg.la 8 (.int .i64 ((0:Nat):Int)) ?_;go_frame;have RP2:=ι (show RowP w5.heap.size wd (.slice ta (bhT m RR i).length tc) (bhT m RR i++(r.take 0).map (bhY m)) by rw [List.take_zero,List.map_nil,List.append_nil]; exact RP.out)
   clear RP;go_wp2
   go_loopw [6,8] (fun tv kv wr=>∃ k:Nat,kv=.int .i64 ((k:Nat):Int)∧k≤r.length∧Hid (RowP w5.heap.size wr tv (bhT m RR i++(r.take k).map (bhY m)))∧Hid (Below w5.heap.size w5 wr)) (fun _ kv _=>r.length - (intOf kv).toNat)
   case atStart=>exact ⟨0,rfl,Nat.zero_le _,RP2,K1⟩
   case round =>
    clear K1 RP2;obtain ⟨k,rfl,hk,RP,K1⟩:=hrel;generalize wr=we at *;obtain ⟨ta,tc,rfl⟩:=RP.out.shape;have hnm:n+m≤64:=HNM.out;have hr64:r.length≤64:=HR64.out;have him:i<n:=HIL.out
    by_cases hkl:k<r.length
    case neg =>
     have HTK:=ι (show bhT m RR i++(r.take k).map (bhY m)=bhT m RR (i+1) by rw [HTN.out,List.take_of_length_le (by omega)]);rw [HTK.out] at RP ⊢;go_upto_region 7 with (fail);refine Rg.wl ?_;refine Rg.lm 24 (.int .i64 ((k:Nat):Int)) ?_;go_frame;refine Rg.lr 25 (exec_field _ rfl rfl (chF2 _ _)) ?_;go_frame;refine Rg.lr 26 (Rg.exec_load (v:=.slice (some ⟨rb,ro,none⟩) (m+n) rc) _ _ rfl ⟨w4.heap.size,2,none⟩ rfl (Rg.run_loadSl _ _ Tryz.underlying52 ((Below.cell (p:=⟨w4.heap.size,2,none⟩) K1.out S1.out.lt).trans S1.out.c2))) ?_;go_frame;refine Rg.lm 27 (.int .i64 (((m+i):Nat):Int)) ?_;go_frame;refine Rg.lr 28 (exec_indexS slPermss _ _ rfl rb (ro) ((m+n)) rc ((m+i)) rfl rfl (by omega)) ?_;go_frame;refine Rg.lr 29 (Rg.exec_load (v:=.slice ua r.length uc) _ _ rfl ⟨rb,ro+(m+i),none⟩ rfl (Rg.run_loadSl _ _ Tryz.underlying22 ((Below.cell (p:=⟨rb,ro+(m+i),none⟩) K1.out CU.out.lt).trans CU.out.cell))) ?_;go_frame
     refine Rg.lr 30 (exec_len _ _ _ rfl Tryz.underlying22 _ _ _ rfl) ?_;go_frame;refine Rg.lr 31 (exec_bin (R:=.bool false) .lss _ _ _ rfl rfl rfl (b_lss _ Rg.dF)) ?_;go_frame;go_upto_region 5 with (fail);refine Rg.wl ?_;refine Rg.lm 22 (.int .i64 (((m+i):Nat):Int)) ?_;go_frame;refine Rg.lr 23 (exec_bin (R:=.int .i64 (((m+(i+1)):Nat):Int)) .add _ _ _ rfl rfl rfl (b_add _ (by omega) (by omega))) ?_;go_frame;refine Rg.lr 7 (Rg.exec_assign (v:=.int .i64 (((m+(i+1)):Nat):Int)) _ rfl rfl) ?_;go_frame;go_wp2
     go_roundw
     case rel=>exact ⟨i+1,by go_num,HIL.out,RP,K1⟩
     case measure=>simp [intOf]; have:=HIL.out; omega
    case pos =>
     have HKL:=ι hkl;obtain ⟨ub,uo,xa,xc,e5,hub,huc,hui⟩:=rowsI_get HU.out hkl;subst e5;obtain ⟨x,hx⟩:∃ x:List Int,Hid (r[k]'hkl=x):=⟨_,ι rfl⟩;rw [hx.out] at huc hui;obtain ⟨z,hz,gz⟩:=HXS.out x (by rw [← hx.out]; exact List.getElem_mem _);have HXL:=ι (show x.length=m+n by rw [hz,Ma.len_ofN]; exact gz.2)
     have HXB:=ι (show ∀ z∈x,0≤z∧z≤64 from fun a ha=>by
      rw [hz] at ha;obtain ⟨q,hq,rfl⟩:=List.mem_map.1 ha;have:=gz.1.1 q hq;have:=gz.2;have:=HNM.out
      omega)
     have CX:=ι (CL.mk huc hub);obtain ⟨xa',xc',ey,-,-,-,hxs⟩:=hui.shape
     injection ey with ey1 _ ey3
     subst ey1 ey3;obtain ⟨xb,xo,rfl,hxb2,hxc2⟩:=hxs (by have:=HXL.out; have:=HN1.out; omega);have XC:=ι (show ∀ k (hk:k<x.length),CL w5 xb (xo+k) (.int .i64 x[k]) from fun k hk=>CL.mk (hxc2 k hk) hxb2);have HTS:=ι (show (r.take (k+1)).map (bhY m)=(r.take k).map (bhY m)++[bhY m x] by rw [List.take_add_one,List.getElem?_eq_getElem hkl,hx.out,List.map_append]; rfl);obtain ⟨tl,htl⟩:∃ l,Hid (bhT m RR i++(r.take k).map (bhY m)=l):=⟨_,ι rfl⟩
     have HTL9:=ι (show tl.length<1000000 by
      rw [← htl.out,List.length_append,List.length_map,List.length_take];have:=HTL.out i
      omega)
     have HTS2:=ι (show bhT m RR i++(r.take (k+1)).map (bhY m)=tl++[bhY m x] by rw [HTS.out,← List.append_assoc,htl.out]);rw [htl.out] at RP ⊢;have HLT6:=ι (fun z e=>(RP.out.lt z e).2);have HSZ6:=ι K1.out.size;clear hub huc hui hz gz hxs hxb2 hxc2;go_upto_region 7 with (fail);refine Rg.wl ?_;refine Rg.lm 24 (.int .i64 ((k:Nat):Int)) ?_;go_frame;refine Rg.lr 25 (exec_field _ rfl rfl (chF2 _ _)) ?_;go_frame;refine Rg.lr 26 (Rg.exec_load (v:=.slice (some ⟨rb,ro,none⟩) (m+n) rc) _ _ rfl ⟨w4.heap.size,2,none⟩ rfl (Rg.run_loadSl _ _ Tryz.underlying52 ((Below.cell (p:=⟨w4.heap.size,2,none⟩) K1.out S1.out.lt).trans S1.out.c2))) ?_;go_frame;refine Rg.lm 27 (.int .i64 (((m+i):Nat):Int)) ?_;go_frame;refine Rg.lr 28 (exec_indexS slPermss _ _ rfl rb (ro) ((m+n)) rc ((m+i)) rfl rfl (by omega)) ?_;go_frame;refine Rg.lr 29 (Rg.exec_load (v:=.slice (some ⟨ub,uo,none⟩) r.length uc) _ _ rfl ⟨rb,ro+(m+i),none⟩ rfl (Rg.run_loadSl _ _ Tryz.underlying22 ((Below.cell (p:=⟨rb,ro+(m+i),none⟩) K1.out CU.out.lt).trans CU.out.cell))) ?_;go_frame
     refine Rg.lr 30 (exec_len _ _ _ rfl Tryz.underlying22 _ _ _ rfl) ?_;go_frame;refine Rg.lr 31 (exec_bin (R:=.bool true) .lss _ _ _ rfl rfl rfl (b_lss _ Rg.dT)) ?_;go_frame;go_upto_region 9 with (fail);refine Rg.wl ?_;refine Rg.la 9 (.slice none 0 0) ?_;go_frame;go_upto_region 10 with (fail);refine Rg.wl ?_;refine Rg.lr 34 (exec_fieldG0 _ rfl rfl) ?_;go_frame;refine Rg.lr 35 (Rg.exec_load (v:=.int .i64 ((m:Nat):Int)) _ _ rfl ⟨w1.heap.size,0,none⟩ rfl (run_loadInt ((Below.cell (p:=⟨w1.heap.size,0,none⟩) K1.out H0.out.lt).trans H0.out.cell))) ?_;go_frame;refine Rg.la 10 (.int .i64 ((m:Nat):Int)) ?_;go_frame;have OW:=ι (show OwI we.heap.size we (.slice none 0 0) ((bhY m x).take 0) from OwI.nil _ _);have KE:=ι (Below.refl we.heap.size we);go_wp2
     go_loopw [9,10] (fun zv kv wr=>∃ t:Nat,kv=.int .i64 (((m+t):Nat):Int)∧t≤n∧Hid (OwI we.heap.size wr zv ((bhY m x).take t))∧Hid (Below we.heap.size we wr)) (fun _ kv _=>m+n - (intOf kv).toNat)
     case atStart=>exact ⟨0,rfl,Nat.zero_le _,OW,KE⟩
     case round =>
      clear OW KE;obtain ⟨t,rfl,ht,OW,KE⟩:=hrel;generalize wr=wg at *;obtain ⟨za,zc,rfl⟩:=OW.out.shape;have KX:=ι (Rg.acc K1.out KE.out);have hnm:n+m≤64:=HNM.out;have him:i<n:=HIL.out;have hkr:k<r.length:=HKL.out
      by_cases htn:t<n
      case neg =>
       have HTK:=ι (show (bhY m x).take t=bhY m x from List.take_of_length_le (by rw [bhY_len HXL.out]; omega));rw [HTK.out] at OW ⊢;have RPX:=ι (RP.out.below KE.out);go_upto_region 11 with (fail);refine Rg.wl ?_;refine Rg.lm 36 (.int .i64 (((m+t):Nat):Int)) ?_;go_frame;refine Rg.lr 37 (exec_field _ rfl rfl (chF0 _ _)) ?_;go_frame;refine Rg.lr 38 (Rg.exec_load (v:=.int .i64 (((m:Nat):Int)+((n:Nat):Int))) _ _ rfl ⟨w4.heap.size,0,none⟩ rfl (run_loadInt ((Below.cell (p:=⟨w4.heap.size,0,none⟩) KX.out S1.out.lt).trans S1.out.c0))) ?_;go_frame;refine Rg.lr 39 (exec_bin (R:=.bool false) .lss _ _ _ rfl rfl rfl (b_lss _ Rg.dF)) ?_;go_frame;go_upto_region 14 with (fail);refine Rg.wl ?_;refine Rg.lm 59 (.slice ta tl.length tc) ?_;go_frame;refine Rg.lm 60 (.slice za (bhY m x).length zc) ?_;go_frame;refine Rg.lr 61 (Rg.exec_buildSlice _ _ _ rfl (.slice za (bhY m x).length zc) rfl (run_build1P wg _ ⟨_,_,_,rfl⟩)) ?_;go_frame
       obtain ⟨a9,c9,X9,r1,r2,r3⟩:=RPX.out.push KX.out.size OW.out.own (by rw [bhY_len HXL.out]; have:=HNM.out; omega) (fun z e=>⟨by have:=(OW.out.own.lt z e).1; have:=HSZ6.out; omega,fun e2=>by have:=(OW.out.own.lt z e).1; have:=HLT6.out z e2; omega⟩) HTL9.out 22;refine Rg.lr 62 (Rg.exec_append _ _ _ rfl rfl rfl r1) ?_;go_frame;refine Rg.la 6 (.slice a9 (tl.length+1) c9) ?_;go_frame;have K6:=ι (r3 (Nat.le_refl _) KX.out);have RP2:=ι (show RowP w5.heap.size X9 (.slice a9 (tl.length+1) c9) (bhT m RR i++(r.take (k+1)).map (bhY m)) by rw [HTS2.out]; exact r2);clear r1 r2 r3;go_upto_region 8 with (fail);refine Rg.wl ?_;refine Rg.lm 32 (.int .i64 ((k:Nat):Int)) ?_;go_frame;refine Rg.lr 33 (exec_bin (R:=.int .i64 (((k+1):Nat):Int)) .add _ _ _ rfl rfl rfl (b_add _ (by omega) (by omega))) ?_;go_frame;refine Rg.la 8 (.int .i64 (((k+1):Nat):Int)) ?_;go_frame
       go_wp2
       go_roundw
       case rel=>exact ⟨k+1,by go_num,HKL.out,RP2,K6⟩
       case measure=>simp [intOf]; have:=HKL.out; omega
      case pos =>
       have HTN2:=ι htn;have HKY:=ι (show m+t<x.length by rw [HXL.out]; omega);obtain ⟨q,hq⟩:∃ q,Hid (x[m+t]'HKY.out=q):=⟨_,ι rfl⟩;have CQ:=ι (XC.out (m+t) HKY.out);rw [hq.out] at CQ;have hqb:0≤q∧q≤64:=HXB.out q (by rw [← hq.out]; exact List.getElem_mem _);have HJ:=ι (show (bhY m x).take (t+1)=(bhY m x).take t++[q - ((m:Nat):Int)] by rw [bhY_step HKY.out,hq.out]);obtain ⟨jl,hjl⟩:∃ l,Hid ((bhY m x).take t=l):=⟨_,ι rfl⟩;have HJL:=ι (show jl.length<1000000 by rw [← hjl.out,List.length_take]; omega);rw [hjl.out] at OW HJ ⊢;go_upto_region 11 with (fail);refine Rg.wl ?_;refine Rg.lm 36 (.int .i64 (((m+t):Nat):Int)) ?_;go_frame;refine Rg.lr 37 (exec_field _ rfl rfl (chF0 _ _)) ?_;go_frame;refine Rg.lr 38 (Rg.exec_load (v:=.int .i64 (((m:Nat):Int)+((n:Nat):Int))) _ _ rfl ⟨w4.heap.size,0,none⟩ rfl (run_loadInt ((Below.cell (p:=⟨w4.heap.size,0,none⟩) KX.out S1.out.lt).trans S1.out.c0))) ?_;go_frame
       refine Rg.lr 39 (exec_bin (R:=.bool true) .lss _ _ _ rfl rfl rfl (b_lss _ Rg.dT)) ?_;go_frame;have hV1:Below wg.heap.size wg wg.drew:=(Below.refl _ _).drew;replace OW:=ι (OW.out.below hV1);replace KE:=ι (Rg.acc KE.out hV1);clear hV1;go_upto_region 13 with (fail);have hV0:Below wg.heap.size wg wg.drew:=(Below.refl _ _).drew;replace KX:=ι (Rg.acc KX.out hV0);clear hV0;refine Rg.Any.begin (S:=Rg.Both 17 (fun _=>True) (fun W=>Below w5.heap.size w5 W)) mix ?_;generalize wg.drew=w181 at *;have hS:∀ (l:Array Bool) W,Below w5.heap.size w5 W→Rg.Both 17 (fun _=>True) (fun W=>Below w5.heap.size w5 W) l W:=fun l W h=>⟨.inr trivial,h⟩;have hI:=KX.out;refine Rg.tm 0 17 (.slice za jl.length zc) 42 (hS _ _ hI) ?_;go_frame;refine Rg.tg 1 17 (.pointer (some ⟨w4.heap.size,2,none⟩)) 43 rfl rfl (.inl ⟨rfl,fun w _=>exec_field _ rfl rfl (chF2 _ _)⟩) (hS _ _ hI) ?_;go_frame
       refine Rg.tg 2 17 (.slice (some ⟨rb,ro,none⟩) (m+n) rc) 44 rfl rfl (Rg.yields_cell _ _ rfl rfl ⟨w4.heap.size,2,none⟩ rfl (fun W hW=>Rg.run_loadSl _ _ Tryz.underlying52 ((Below.cell (p:=⟨w4.heap.size,2,none⟩) hW S1.out.lt).trans S1.out.c2))) (hS _ _ hI) ?_;go_frame;refine Rg.tm 3 17 (.int .i64 (((m+i):Nat):Int)) 45 (hS _ _ hI) ?_;go_frame;refine Rg.tg 4 17 (.pointer (some ⟨rb,ro+(m+i),none⟩)) 46 rfl rfl (Rg.yields_index slPermss _ _ rfl rfl rb (ro) ((m+n)) rc ((m+i)) rfl rfl (by omega)) (hS _ _ hI) ?_;go_frame;refine Rg.tg 5 17 (.slice (some ⟨ub,uo,none⟩) r.length uc) 47 rfl rfl (Rg.yields_cell _ _ rfl rfl ⟨rb,ro+(m+i),none⟩ rfl (fun W hW=>Rg.run_loadSl _ _ Tryz.underlying22 ((Below.cell (p:=⟨rb,ro+(m+i),none⟩) hW CU.out.lt).trans CU.out.cell))) (hS _ _ hI) ?_;go_frame;refine Rg.tm 6 17 (.int .i64 ((k:Nat):Int)) 48 (hS _ _ hI) ?_;go_frame
       refine Rg.tg 7 17 (.pointer (some ⟨ub,uo+k,none⟩)) 49 rfl rfl (Rg.yields_index slPerms _ _ rfl rfl ub (uo) (r.length) uc (k) rfl rfl HKL.out) (hS _ _ hI) ?_;go_frame;refine Rg.tg 8 17 (.slice (some ⟨xb,xo,none⟩) x.length xc) 50 rfl rfl (Rg.yields_cell _ _ rfl rfl ⟨ub,uo+k,none⟩ rfl (fun W hW=>Rg.run_loadSl _ _ Tryz.underlying51 ((Below.cell (p:=⟨ub,uo+k,none⟩) hW CX.out.lt).trans CX.out.cell))) (hS _ _ hI) ?_;go_frame;refine Rg.tm 9 17 (.int .i64 (((m+t):Nat):Int)) 51 (hS _ _ hI) ?_;go_frame;refine Rg.tg 10 17 (.pointer (some ⟨xb,xo+(m+t),none⟩)) 52 rfl rfl (Rg.yields_index slPerm _ _ rfl rfl xb (xo) (x.length) xc ((m+t)) rfl rfl HKY.out) (hS _ _ hI) ?_;go_frame;refine Rg.tg 11 17 (.int .i64 q) 53 rfl rfl (Rg.yields_cell _ _ rfl rfl ⟨xb,xo+(m+t),none⟩ rfl (fun W hW=>run_loadInt ((Below.cell (p:=⟨xb,xo+(m+t),none⟩) hW CQ.out.lt).trans CQ.out.cell))) (hS _ _ hI) ?_;go_frame
       refine Rg.tg 12 17 (.pointer (some ⟨w1.heap.size,0,none⟩)) 54 rfl rfl (.inl ⟨rfl,fun w _=>exec_fieldG0 _ rfl rfl⟩) (hS _ _ hI) ?_;go_frame;refine Rg.tg 13 17 (.int .i64 ((m:Nat):Int)) 55 rfl rfl (Rg.yields_cell _ _ rfl rfl ⟨w1.heap.size,0,none⟩ rfl (fun W hW=>run_loadInt ((Below.cell (p:=⟨w1.heap.size,0,none⟩) hW H0.out.lt).trans H0.out.cell))) (hS _ _ hI) ?_;go_frame;refine Rg.tg 14 17 (.int .i64 (q - ((m:Nat):Int))) 56 rfl rfl (.inl ⟨rfl,fun w _=>exec_bin (R:=.int .i64 (q - ((m:Nat):Int))) .sub _ _ _ rfl rfl rfl (b_sub _ (by omega) (by omega))⟩) (hS _ _ hI) ?_;go_frame;obtain ⟨a9,c9,X9,r1,r2,r3⟩:=OW.out.pushP KE.out.size (q - ((m:Nat):Int)) HJL.out 51;have hKW:=hI;have hb:=(Below.refl w181.heap.size w181).alloc (Nat.le_refl _) (.cells #[.int .i64 (q - ((m:Nat):Int))] 3);have hI2_0:=Rg.acc hI hb;have hI2_1:=hb;clear hb hI;refine Rg.Any.one (i:=15) (by kernel_rfl) (Rg.Any.run (some 57) rfl rfl rfl (Rg.exec_buildSlice _ _ _ rfl (.int .i64 (q - ((m:Nat):Int))) rfl (run_build1p w181 _)) (hS _ _ hI2_0) ?_)
       go_frame;generalize w181.alloc (.cells #[.int .i64 (q - ((m:Nat):Int))] 3)=w182 at *;have hI3_g:=r3 HSZ6.out hKW;refine Rg.Any.one (i:=16) (by kernel_rfl) (Rg.Any.run (some 58) rfl rfl rfl (Rg.exec_append _ _ _ rfl rfl rfl r1) (hS _ _ hI3_g) ?_);go_frame;clear hI2_0 hI2_1;refine Rg.Any.one (i:=17) (by kernel_rfl) (Rg.Any.run (some 9) rfl rfl rfl (Rg.xa (.slice a9 (jl.length+1) c9) _ rfl rfl) (hS _ _ hI3_g) ?_);go_frame;refine Rg.Any.done (by kernel_rfl) ?_ _;replace KX:=ι hI3_g;clear hS hI3_g;have OW2:=ι (show OwI we.heap.size X9 (.slice a9 (jl.length+1) c9) ((bhY m x).take (t+1)) by rw [HJ.out]; exact r2);have KE2:=ι (r3 (Nat.le_refl _) KE.out);clear r1 r2 r3;go_upto_region 12 with (fail);refine Rg.wl ?_;refine Rg.lm 40 (.int .i64 (((m+t):Nat):Int)) ?_;go_frame;refine Rg.lr 41 (exec_bin (R:=.int .i64 (((m+(t+1)):Nat):Int)) .add _ _ _ rfl rfl rfl (b_add _ (by omega) (by omega))) ?_;go_frame
       refine Rg.lr 10 (Rg.exec_assign (v:=.int .i64 (((m+(t+1)):Nat):Int)) _ rfl rfl) ?_;go_frame;go_wp2
       go_roundw
       case rel=>exact ⟨t+1,by go_num,HTN2.out,OW2,KE2⟩
       case measure=>simp [intOf]; have:=HTN2.out; omega
  case neg =>
   obtain ⟨PL,hPL⟩:∃ l,Hid (bhL m RR=l):=⟨_,ι rfl⟩;have HTE:=ι (show bhT m RR i=PL by rw [← hPL.out]; exact bhT_all (by have:=HRL.out; omega));have HPL:=ι (show PL.length≤4096 by rw [← HTE.out]; exact HTL.out i);rw [HTE.out] at RP ⊢;have HRW:=ι (FRows.rows (RP.out.frows (by have:=HPL.out; omega) (G:=fun _=>True) (fun _ _ _=>trivial)));have KT:=ι (show Below w.heap.size w wd from K.out.trans (K1.out.mono K.out.size));obtain ⟨mk,hmk⟩:∃ c,Hid (mkchk ((n:Nat):Int) PL=c):=⟨_,ι rfl⟩;go_upto_region 4 with (fail);refine Rg.wl ?_;refine Rg.lm 18 (.int .i64 (((m+i):Nat):Int)) ?_;go_frame;refine Rg.lr 19 (exec_field _ rfl rfl (chF0 _ _)) ?_;go_frame;refine Rg.lr 20 (Rg.exec_load (v:=.int .i64 (((m:Nat):Int)+((n:Nat):Int))) _ _ rfl ⟨w4.heap.size,0,none⟩ rfl (run_loadInt ((Below.cell (p:=⟨w4.heap.size,0,none⟩) K1.out S1.out.lt).trans S1.out.c0))) ?_;go_frame
   refine Rg.lr 21 (exec_bin (R:=.bool false) .lss _ _ _ rfl rfl rfl (b_lss _ Rg.dF)) ?_;go_frame;replace G0:=ι (G0.out.below K1.out);replace G1:=ι (G1.out.below K1.out);replace H0:=ι (H0.out.below K1.out);replace H1:=ι (H1.out.below K1.out);replace S1:=ι (S1.out.below K1.out);replace FT:=ι (FT.out.below K1.out);clear K1 RP K;go_upto_region 15 with (fail);refine Rg.wl ?_;refine Rg.lr 64 (exec_fieldG0 _ rfl rfl) ?_;go_frame;refine Rg.lr 65 (Rg.exec_load (v:=.int .i64 ((n:Nat):Int)) _ _ rfl ⟨w.heap.size,0,none⟩ rfl (run_loadInt G0.out.cell)) ?_;go_frame;refine Rg.lm 66 (.slice ta PL.length tc) ?_;go_frame;have HTD:=ι FT.out.lt;have HWS:=ι KT.out.size;refine Rg.lk 67 (exec_fn 120 _ _ _ rfl rfl rfl (Kycl2 _ _)) ?_;refine (rMake_any _ _ _ wd HRW.out).mono ?_;rintro e1 w383 ⟨cv,rfl,hcv,hb⟩;rw [hmk.out] at hcv ⊢;obtain ⟨e1,oa1,on1,oc1,ra1,rn1,rc1,rfl⟩:=hcv.ans.shape
   refine ⟨_,rfl,?_⟩;go_frame;replace G0:=ι (G0.out.below hb);replace G1:=ι (G1.out.below hb);replace H0:=ι (H0.out.below hb);replace H1:=ι (H1.out.below hb);replace S1:=ι (S1.out.below hb);replace HRW:=ι (HRW.out.below hb);replace FT:=ι (FT.out.below hb);replace KT:=ι (Rg.acc KT.out hb);clear hb;have CV:=ι hcv;refine Rg.lm 63 (.tuple #[(.agg #[.int .i64 e1,.slice oa1 on1 oc1,.slice ra1 rn1 rc1]),.int .i64 mk]) ?_;go_frame;refine Rg.lr 68 (exec_extract (v:=(.agg #[.int .i64 e1,.slice oa1 on1 oc1,.slice ra1 rn1 rc1])) _ _ rfl rfl rfl) ?_;go_frame;refine Rg.lr 69 (exec_extract (v:=.int .i64 mk) _ _ rfl rfl rfl) ?_;go_frame;refine Rg.lr 11 (exec_allocC rfl) ?_;go_frame;refine Rg.list_skip none rfl rfl (Rg.exec_store _ _ _ rfl _ rfl _ rfl (run_storeC _ _ _ _ _ _ _ (Tri.new w383 (.int .i64 0) (.slice none 0 0) (.slice none 0 0)))) ?_;go_frame;have htn:=(Tri.new w383 (.int .i64 0) (.slice none 0 0) (.slice none 0 0)).set (.int .i64 e1) (.slice oa1 on1 oc1) (.slice ra1 rn1 rc1)
   have hb:=((((Below.refl w383.heap.size w383).alloc (Nat.le_refl _) (.cells #[.int .i64 0,.slice none 0 0,.slice none 0 0] 54)).setCell (p:=⟨w383.heap.size,0,none⟩) (Nat.le_refl _) (.int .i64 e1)).setCell (p:=⟨w383.heap.size,1,none⟩) (Nat.le_refl _) (.slice oa1 on1 oc1)).setCell (p:=⟨w383.heap.size,2,none⟩) (Nat.le_refl _) (.slice ra1 rn1 rc1);generalize (((w383.alloc (.cells #[.int .i64 0,.slice none 0 0,.slice none 0 0] 54)).setCell ⟨w383.heap.size,0,none⟩ (.int .i64 e1)).setCell ⟨w383.heap.size,1,none⟩ (.slice oa1 on1 oc1)).setCell ⟨w383.heap.size,2,none⟩ (.slice ra1 rn1 rc1)=w384 at *;replace G0:=ι (G0.out.below hb);replace G1:=ι (G1.out.below hb);replace H0:=ι (H0.out.below hb);replace H1:=ι (H1.out.below hb);replace S1:=ι (S1.out.below hb);replace HRW:=ι (HRW.out.below hb);replace FT:=ι (FT.out.below hb);replace CV:=ι (CV.out.below hb);replace KT:=ι (Rg.acc KT.out hb)
   clear hb;have S2:=ι htn;clear htn;refine Rg.la 12 (.int .i64 mk) ?_;go_frame;clear hcv;go_upto_region 16 with (fail);refine Rg.wl ?_;refine Rg.lr 70 (Rg.exec_load (v:=(.agg #[.int .i64 e1,.slice oa1 on1 oc1,.slice ra1 rn1 rc1])) _ _ rfl ⟨w383.heap.size,0,none⟩ rfl (run_loadC3 S2.out.c0 S2.out.c1 S2.out.c2)) ?_;go_frame;refine Rg.list_skip none rfl rfl (Rg.exec_store _ _ _ rfl _ rfl _ rfl (run_storeC _ _ _ _ _ _ _ FT.out)) ?_;go_frame;have htt:=FT.out.set (.int .i64 e1) (.slice oa1 on1 oc1) (.slice ra1 rn1 rc1);have hkp:=Rg.Kp.trans (Rg.Kp.trans (Rg.Kp.of_setCell (M:=fun z=>z=w2.heap.size) (w:=w384) (a:=⟨w2.heap.size,0,none⟩) (v:=.int .i64 e1) rfl) (Rg.Kp.of_setCell (M:=fun z=>z=w2.heap.size) (a:=⟨w2.heap.size,1,none⟩) (v:=.slice oa1 on1 oc1) rfl) (fun _ _ e=>e)) (Rg.Kp.of_setCell (M:=fun z=>z=w2.heap.size) (a:=⟨w2.heap.size,2,none⟩) (v:=.slice ra1 rn1 rc1) rfl) (fun _ _ e=>e)
   have hkf:=((KT.out.setCell (p:=⟨w2.heap.size,0,none⟩) HTDL.out (.int .i64 e1)).setCell (p:=⟨w2.heap.size,1,none⟩) HTDL.out (.slice oa1 on1 oc1)).setCell (p:=⟨w2.heap.size,2,none⟩) HTDL.out (.slice ra1 rn1 rc1);have hcf:=(CV.out.kp hkp (fun z hz=>by have:=HTD.out; omega)).mono HWS.out;generalize ((w384.setCell ⟨w2.heap.size,0,none⟩ (.int .i64 e1)).setCell ⟨w2.heap.size,1,none⟩ (.slice oa1 on1 oc1)).setCell ⟨w2.heap.size,2,none⟩ (.slice ra1 rn1 rc1)=w99 at *;have HTT:=ι htt;have HFI:=ι (show KnPost n (bhL m (pR (((m:Nat):Int)+((n:Nat):Int)) (prL M L))) w (.returned (.agg #[.int .i64 e1,.slice oa1 on1 oc1,.slice ra1 rn1 rc1])) w99 from ⟨_,rfl,by rw [hRR.out,hPL.out,hmk.out]; exact hcf,hkf⟩);clear htt hkp hkf hcf;go_wp2;exact bodyPost_ret (results_cellC rfl _ rfl HTT.out) rfl HFI.out
end Go.Proofs.YthehbckogieimaaGreat

namespace Go.Proofs.YthehbckogieimaaGreat
open Go.RowKit
open Go.Proofs
open Go.Proofs.Cm (Gd Gr IsG IsChain ap Fx St)
attribute [local irreducible] Go.Calls Go.wpList
theorem ap_jn1 {n m:Nat} {a b:List Nat} (ha:Gd n a) {i:Nat} (hi:i<n):ap (jnN a b) i=ap a i:=by
 unfold ap jnN;rw [List.getD_eq_getElem?_getD,List.getD_eq_getElem?_getD,List.getElem?_append_left (by rw [ha.2]; exact hi)]
theorem ap_jn2 {n m:Nat} {a b:List Nat} (ha:Gd n a) (hb:Gd m b) {i:Nat} (hi:i<m):ap (jnN a b) (n+i)=n+ap b i:=by
 unfold ap jnN;rw [List.getD_eq_getElem?_getD,List.getD_eq_getElem?_getD,List.getElem?_append_right (by rw [ha.2]; omega),List.getElem?_map,ha.2,Nat.add_sub_cancel_left,List.getElem?_eq_getElem (by rw [hb.2]; exact hi)];simp only [Option.map_some,Option.getD_some];omega
theorem jn_mul {n m:Nat} {a b c e:List Nat} (ha:Gd n a) (hb:Gd m b) (hc:Gd n c) (he:Gd m e):Ma.mulN (jnN a b) (jnN c e)=jnN (Ma.mulN a c) (Ma.mulN b e):=by
 have g1:=jnN_gd ha hb;have g2:=jnN_gd hc he;have g3:=jnN_gd (Cm.gd_mul ha hc) (Cm.gd_mul hb he);refine Cm.gd_ext (Cm.gd_mul g1 g2).2 g3.2 fun i hi=>?_;rw [Cm.ap_mul g1 hi]
 by_cases h:i<n
 ·rw [ap_jn1 (m:=m) ha h,ap_jn1 (m:=m) hc (Cm.ap_lt ha h),ap_jn1 (m:=m) (Cm.gd_mul ha hc) h,Cm.ap_mul ha h]
 ·obtain ⟨k,rfl⟩:∃ k,i=n+k:=⟨i - n,by omega⟩
  have hk:k<m:=by omega
  rw [ap_jn2 ha hb hk,ap_jn2 hc he (Cm.ap_lt hb hk),ap_jn2 (Cm.gd_mul ha hc) (Cm.gd_mul hb he) hk,Cm.ap_mul hb hk]
theorem jn_one (n m:Nat):jnN (Ma.oneN n) (Ma.oneN m)=Ma.oneN (n+m):=by
 have g1:=jnN_gd (Cm.gd_one n) (Cm.gd_one m);refine Cm.gd_ext g1.2 (Ma.len_oneN _) fun i hi=>?_;rw [Cm.ap_one hi]
 by_cases h:i<n
 ·rw [ap_jn1 (m:=m) (Cm.gd_one n) h,Cm.ap_one h]
 ·obtain ⟨k,rfl⟩:∃ k,i=n+k:=⟨i - n,by omega⟩
  rw [ap_jn2 (Cm.gd_one n) (Cm.gd_one m) (by omega),Cm.ap_one (by omega)]
theorem jn_inv {n m:Nat} {a b:List Nat} (ha:Gd n a) (hb:Gd m b):Ma.invN (jnN a b)=jnN (Ma.invN a) (Ma.invN b):=by
 have g1:=jnN_gd ha hb;have g2:=jnN_gd (Cm.gd_inv ha) (Cm.gd_inv hb)
 have e:Ma.mulN (jnN (Ma.invN a) (Ma.invN b)) (jnN a b)=Ma.oneN (n+m):=by
  rw [jn_mul (Cm.gd_inv ha) (Cm.gd_inv hb) ha hb,Cm.inv_mul ha,Cm.inv_mul hb,jn_one]
 have e2:=Cm.mul_cancel_inv g2 g1;rw [e,Cm.one_mul (Cm.gd_inv g1)] at e2;exact e2
theorem jn_inj {n m:Nat} {a b c e:List Nat} (ha:Gd n a) (hb:Gd m b) (hc:Gd n c) (he:Gd m e) (h:jnN a b=jnN c e):a=c∧b=e:=by
 refine ⟨Cm.gd_ext ha.2 hc.2 fun i hi=>?_,Cm.gd_ext hb.2 he.2 fun i hi=>?_⟩
 ·have h1:=ap_jn1 (m:=m) (b:=b) ha hi
  rw [h,ap_jn1 (m:=m) hc hi] at h1;exact h1.symm
 ·have h1:=ap_jn2 ha hb hi
  rw [h,ap_jn2 hc he hi] at h1;omega
def PG2 (n m:Nat) (A B:List (List Nat)):List Nat→Prop:=Gr (n+m) (·∈prN A B)
theorem pg_isG {n m:Nat} {A B:List (List Nat)} (ga:∀ s∈A,Gd n s) (gb:∀ s∈B,Gd m s):IsG (n+m) (PG2 n m A B):=Cm.Gr.isG (mem_prN ga gb)
theorem mem_prN':∀ {A B:List (List Nat)} {s:List Nat},s∈prN A B→∃ a∈A,∃ b∈B,s=jnN a b
 | [],_,s,h=>by simp [prN] at h
 | _ :: _,[],s,h=>by simp [prN] at h
 | x :: A,y :: B,s,h=>by
  unfold prN at h;rw [List.zipWith_cons_cons] at h
  rcases List.mem_cons.1 h with rfl | h
  ·exact ⟨x,List.mem_cons_self ..,y,List.mem_cons_self ..,rfl⟩
  ·obtain ⟨a,ha,b,hb,e⟩:=mem_prN' h
   exact ⟨a,List.mem_cons_of_mem _ ha,b,List.mem_cons_of_mem _ hb,e⟩
theorem pg_split {n m:Nat} {A B:List (List Nat)} (ga:∀ s∈A,Gd n s) (gb:∀ s∈B,Gd m s) {z:List Nat} (hz:PG2 n m A B z):∃ a b,Gr n (·∈A) a∧Gr m (·∈B) b∧z=jnN a b:=by
 have hA:=Cm.Gr.isG (gs:=(·∈A)) ga;have hB:=Cm.Gr.isG (gs:=(·∈B)) gb;refine Cm.Gr.sub (H:=fun z=>∃ a b,Gr n (·∈A) a∧Gr m (·∈B) b∧z=jnN a b) ⟨?_,?_,?_,?_⟩ (fun s hs=>?_) hz
 ·rintro x ⟨a,b,h1,h2,rfl⟩
  exact jnN_gd (hA.gd _ h1) (hB.gd _ h2)
 ·exact ⟨_,_,.one,.one,(jn_one n m).symm⟩
 ·rintro x y ⟨a,b,h1,h2,rfl⟩ ⟨c,e,h3,h4,rfl⟩
  exact ⟨_,_,.mul _ _ h1 h3,.mul _ _ h2 h4,jn_mul (hA.gd _ h1) (hB.gd _ h2) (hA.gd _ h3) (hB.gd _ h4)⟩
 ·rintro x ⟨a,b,h1,h2,rfl⟩
  exact ⟨_,_,.inv _ h1,.inv _ h2,jn_inv (hA.gd _ h1) (hB.gd _ h2)⟩
 ·obtain ⟨a,ha,b,hb,rfl⟩:=mem_prN' hs
  exact ⟨a,b,.gen _ ha,.gen _ hb,rfl⟩
def ImR (m:Nat) (H:List Nat→Prop) (x:List Nat):Option (List Nat)→Prop
 | none=>∀ y,Gd m y→¬ H (jnN x y)
 | some y=>Gd m y∧H (jnN x y)
def DefH (n m:Nat) (H:List Nat→Prop):Prop:=∀ y,Gd m y→H (jnN (Ma.oneN n) y)→y=Ma.oneN m
theorem ImR.uniq {n m:Nat} {H:List Nat→Prop} (hH:IsG (n+m) H) (hd:DefH n m H) {x:List Nat} (hx:Gd n x):∀ {r r':Option (List Nat)},ImR m H x r→ImR m H x r'→r=r'
 | none,none,_,_=>rfl
 | none,some y,h,h'=>absurd h'.2 (h y h'.1)
 | some y,none,h,h'=>absurd h.2 (h' y h.1)
 | some y,some y',h,h'=>by
  have e:=hH.mul _ _ h.2 (hH.inv _ h'.2);rw [jn_inv hx h'.1,jn_mul hx h.1 (Cm.gd_inv hx) (Cm.gd_inv h'.1),Cm.mul_inv hx] at e;have e2:=hd _ (Cm.gd_mul h.1 (Cm.gd_inv h'.1)) e;have e3:=Cm.mul_inv_cancel h.1 h'.1;rw [e2,Cm.one_mul h'.1] at e3;rw [e3]
def Agr (x z:List Nat) (i:Nat):Prop:=∀ j,j<i→ap z j=ap x j
theorem agr_find {N i:Nat} {H:List Nat→Prop} (hH:IsG N H) {O:List (List Nat)} {R:List (List (List Nat))} (hc:IsChain N H O R) (hi:i<N) {x z w:List Nat} (hz:H z) (hw:H w) (az:Agr x z i) (aw:Agr x w (i+1)):∃ q∈O.getD i [],ap z q=ap x i:=by
 have gz:=hH.gd _ hz;have gw:=hH.gd _ hw;have gi:=Cm.gd_inv gz
 have hs:St H i (Ma.mulN w (Ma.invN z)):=⟨hH.mul _ _ hw (hH.inv _ hz),fun j hj=>by
  rw [Cm.ap_mul gw (by omega),aw j (by omega),← az j hj,Cm.ap_inv gz (by omega)]⟩
 refine ⟨ap (Ma.mulN w (Ma.invN z)) i,(hc.orb i _ hi).2 ⟨_,hs,rfl⟩,?_⟩;rw [Cm.ap_mul gw hi,Cm.ap_inv2 gz (Cm.ap_lt gw hi),aw i (by omega)]
theorem agr_next {N i k:Nat} {H:List Nat→Prop} (hH:IsG N H) {O:List (List Nat)} {R:List (List (List Nat))} (hc:IsChain N H O R) (hi:i<N) {x z:List Nat} (hz:H z) (az:Agr x z i) (hk:k<(O.getD i []).length) (hq:ap z ((O.getD i []).getD k 0)=ap x i) :
  H (Ma.mulN ((R.getD i []).getD k []) z)∧Agr x (Ma.mulN ((R.getD i []).getD k []) z) (i+1):=by
 have hr:=(hc.rep i k hi hk).1;have gr:=hH.gd _ hr.1.1;refine ⟨hH.mul _ _ hr.1.1 hz,fun j hj=>?_⟩;rw [Cm.ap_mul gr (by omega)]
 by_cases e:j=i
 ·subst e
  rw [hr.2]; exact hq
 ·rw [hr.1.2 j (by omega)]
  exact az j (by omega)
theorem agr_all {n m:Nat} {A B:List (List Nat)} (ga:∀ s∈A,Gd n s) (gb:∀ s∈B,Gd m s) {x z:List Nat} (hx:Gd n x) (hz:PG2 n m A B z) (az:Agr x z n):∃ b,Gd m b∧z=jnN x b∧PG2 n m A B (jnN x b):=by
 obtain ⟨a,b,h1,h2,rfl⟩:=pg_split ga gb hz;have g1:=(Cm.Gr.isG (gs:=(·∈A)) ga).gd _ h1;have g2:=(Cm.Gr.isG (gs:=(·∈B)) gb).gd _ h2
 have e:a=x:=Cm.gd_ext g1.2 hx.2 fun i hi=>by rw [← az i hi,ap_jn1 (m:=m) g1 hi]
 subst e;exact ⟨b,g2,rfl,hz⟩
theorem agr_none {n m i:Nat} {A B:List (List Nat)} (ga:∀ s∈A,Gd n s) (gb:∀ s∈B,Gd m s) {O:List (List Nat)} {R:List (List (List Nat))} (hc:IsChain (n+m) (PG2 n m A B) O R) (hi:i<n) {x z:List Nat} (hx:Gd n x) (hz:PG2 n m A B z) (az:Agr x z i) (hno:∀ q∈O.getD i [],ap z q≠ap x i):ImR m (PG2 n m A B) x none:=fun y gy hy=>by
 obtain ⟨q,hq,e⟩:=agr_find (pg_isG ga gb) hc (i:=i) (by omega) hz hy az (fun j hj=>ap_jn1 (m:=m) hx (by omega));exact hno q hq e
def SiI (n m:Nat) (H:List Nat→Prop) (x:List Nat) (i:Nat) (v:List Nat):Prop:=Fx i v∧Gd (n+m) v∧∃ z,H z∧Ma.mulN v z=jnN x (Ma.oneN m)
theorem SiI.start {n m:Nat} {H:List Nat→Prop} (hH:IsG (n+m) H) {x:List Nat} (hx:Gd n x):SiI n m H x 0 (jnN x (Ma.oneN m)) :=
 ⟨fun _ h=>absurd h (Nat.not_lt_zero _),jnN_gd hx (Cm.gd_one m),Ma.oneN (n+m),hH.one,Cm.mul_one (jnN_gd hx (Cm.gd_one m))⟩
theorem SiI.next {n m i k:Nat} {H:List Nat→Prop} (hH:IsG (n+m) H) {O:List (List Nat)} {R:List (List (List Nat))} (hc:IsChain (n+m) H O R) (hi:i<n) {x v:List Nat} (h:SiI n m H x i v) (hk:k<(O.getD i []).length) (hq:(O.getD i []).getD k 0=ap v i) :
  SiI n m H x (i+1) (Ma.mulN v (Ma.invN ((R.getD i []).getD k []))):=by
 obtain ⟨h1,gv,z,hz,hvz⟩:=h;have hr:=(hc.rep i k (by omega) hk).1;have gr:=hH.gd _ hr.1.1;have gz:=hH.gd _ hz;refine ⟨fun j hj=>?_,Cm.gd_mul gv (Cm.gd_inv gr),Ma.mulN ((R.getD i []).getD k []) z,hH.mul _ _ hr.1.1 hz,?_⟩
 ·rw [Cm.ap_mul gv (by omega)]
  by_cases e:j=i
  ·subst e
   have h5:=Cm.ap_inv gr (i:=j) (by omega);rw [hr.2,hq] at h5;exact h5
  ·rw [h1 j (by omega)]
   have h5:=Cm.ap_inv gr (i:=j) (by omega);rw [hr.1.2 j (by omega)] at h5;exact h5
 ·rw [← Cm.mul_assoc (Cm.gd_mul gv (Cm.gd_inv gr)) gr,Cm.mul_inv_cancel gv gr]
  exact hvz
theorem SiI.none {n m i:Nat} {A B:List (List Nat)} (ga:∀ s∈A,Gd n s) (gb:∀ s∈B,Gd m s) {O:List (List Nat)} {R:List (List (List Nat))} (hc:IsChain (n+m) (PG2 n m A B) O R) (hi:i<n) {x v:List Nat} (hx:Gd n x) (h:SiI n m (PG2 n m A B) x i v) (hno:ap v i∉O.getD i []):ImR m (PG2 n m A B) x none:=fun y gy hy=>by
 obtain ⟨h1,gv,z,hz,hvz⟩:=h;have hH:=pg_isG ga gb;have gz:=hH.gd _ hz;have gw:=hH.gd _ hy
 have key:∀ j,j<n→ap (Ma.mulN (jnN x y) (Ma.invN z)) j=ap v j:=fun j hj=>by
  rw [Cm.ap_mul gw (by omega),ap_jn1 (m:=m) hx hj]
  have e:ap (Ma.mulN v z) j=ap x j:=by rw [hvz,ap_jn1 (m:=m) hx hj]
  rw [Cm.ap_mul gv (by omega)] at e;rw [← e,Cm.ap_inv gz (Cm.ap_lt gv (by omega))]
 refine hno ((hc.orb i _ (by omega)).2 ⟨Ma.mulN (jnN x y) (Ma.invN z),⟨hH.mul _ _ hy (hH.inv _ hz),fun j hj=>?_⟩,key i hi⟩);rw [key j (by omega)]; exact h1 j hj
def bhN (n:Nat) (v:List Nat):List Nat:=(v.drop n).map (fun q=>q - n)
theorem bh_jn {n m:Nat} {a b:List Nat} (ha:Gd n a):bhN n (jnN a b)=b:=by
 unfold bhN jnN;rw [List.drop_append_of_le_length (by rw [ha.2]; exact Nat.le_refl _),List.drop_of_length_le (by rw [ha.2]; exact Nat.le_refl _),List.nil_append,List.map_map,ha.2]
 conv=>rhs; rw [← List.map_id b]
 exact List.map_congr_left fun x _=>by simp
theorem SiI.all {n m:Nat} {A B:List (List Nat)} (ga:∀ s∈A,Gd n s) (gb:∀ s∈B,Gd m s) {x v:List Nat} (hx:Gd n x) (h:SiI n m (PG2 n m A B) x n v):∃ c,Gd m c∧v=jnN (Ma.oneN n) c∧ImR m (PG2 n m A B) x (some (Ma.invN c)):=by
 obtain ⟨h1,gv,z,hz,hvz⟩:=h;have gz:=(pg_isG ga gb).gd _ hz
 have az:Agr x z n:=fun j hj=>by
  have e:ap (Ma.mulN v z) j=ap x j:=by rw [hvz,ap_jn1 (m:=m) hx hj]
  rw [Cm.ap_mul gv (by omega),h1 j hj] at e;exact e
 obtain ⟨b,gb',rfl,hxb⟩:=agr_all ga gb hx hz az;have e1:=Cm.mul_cancel_inv gv gz;rw [hvz,jn_inv hx gb',jn_mul hx (Cm.gd_one m) (Cm.gd_inv hx) (Cm.gd_inv gb'),Cm.mul_inv hx,Cm.one_mul (Cm.gd_inv gb')] at e1;refine ⟨Ma.invN b,Cm.gd_inv gb',e1.symm,?_⟩
 have e2:Ma.invN (Ma.invN b)=b:=by
  have e3:=Cm.mul_cancel_inv gb' (Cm.gd_inv gb');rw [Cm.mul_inv gb',Cm.one_mul (Cm.gd_inv (Cm.gd_inv gb'))] at e3;exact e3
 rw [e2];exact ⟨gb',hxb⟩
theorem HomG.pgc {d e:Int} {L M:List (List Int)} {n m:Nat} {A B:List (List Nat)} (h:HomG d e L M n m A B) {N:Nat} {gs:List (List Nat)} (hp:PcF (d+e) (prL L M) N gs):N=n+m∧IsChain (n+m) (PG2 n m A B) (pOR (d+e) (prL L M)).1 (pOR (d+e) (prL L M)).2:=by
 have hN:N=n+m:=by have:=hp.dn; have:=h.dn; have:=h.em; omega
 subst hN
 have hgs:gs=prN A B:=by
  have e1:=hp.lg;rw [h.la,h.mb,prL_ofN] at e1;exact (map_ofN_inj e1).symm
 subst hgs;exact ⟨rfl,hp.ch⟩
theorem len1_eq {l:List Nat} {a b:Nat} (h:l.length≤1) (ha:a∈l) (hb:b∈l):a=b:=by
 match l,h with
 | [],_=>simp at ha
 | [x],_=>rw [List.mem_singleton.1 ha,List.mem_singleton.1 hb]
theorem HomG.defH {d e:Int} {L M:List (List Int)} {n m:Nat} {A B:List (List Nat)} (h:HomG d e L M n m A B) {N:Nat} {gs:List (List Nat)} (hp:PcF (d+e) (prL L M) N gs) (hd:dfB n (pO (d+e) (prL L M))=true):DefH n m (PG2 n m A B):=by
 obtain ⟨hN,hc⟩:=h.pgc hp;have hH:=pg_isG h.ga h.gb;intro y gy hy;have g1:=hH.gd _ hy
 have key:∀ k,k≤m→Fx (n+k) (jnN (Ma.oneN n) y):=by
  intro k
  induction k with
  | zero=>exact fun _ j hj=>by rw [ap_jn1 (m:=m) (Cm.gd_one n) (by omega),Cm.ap_one (by omega)]
  | succ k ih =>
   intro hk j hj
   by_cases hj2:j<n+k
   ·exact ih (by omega) j hj2
   ·obtain rfl:j=n+k:=by omega
    have h1:((pOR (d+e) (prL L M)).1.getD (n+k) []).length≤1:=by
     have hlt:n+k<(pO (d+e) (prL L M)).length:=by unfold pO; rw [List.length_map,hc.lenO]; omega
     have h2:(pO (d+e) (prL L M))[n+k].length≤1:=by
      by_cases q:(pO (d+e) (prL L M))[n+k].length≤1
      ·exact q
      ·rw [dfB_no hlt (by omega)] at hd; cases hd
     have h3:n+k<(pOR (d+e) (prL L M)).1.length:=by rw [hc.lenO]; omega
     rw [List.getD_eq_getElem?_getD,List.getElem?_eq_getElem h3,Option.getD_some]
     have h9:(pO (d+e) (prL L M))[n+k]=Ma.ofN ((pOR (d+e) (prL L M)).1[n+k]):=by
      show (List.map Ma.ofN (pOR (d+e) (prL L M)).1)[n+k]'hlt=_;exact List.getElem_map ..
     rw [h9,Ma.len_ofN] at h2;exact h2
    exact len1_eq h1 ((hc.orb (n+k) _ (by omega)).2 ⟨_,⟨hy,ih (by omega)⟩,rfl⟩) ((hc.orb (n+k) _ (by omega)).2 ⟨_,⟨hH.one,Cm.Fx.one (by omega)⟩,Cm.ap_one (by omega)⟩)
 have e1:=Cm.Fx.all g1 (key m (Nat.le_refl _));rw [← jn_one] at e1;exact (jn_inj (Cm.gd_one n) gy (Cm.gd_one n) (Cm.gd_one m) e1).2
theorem HomG.defH' {d e:Int} {L M:List (List Int)} {n m:Nat} {A B:List (List Nat)} (h:HomG d e L M n m A B) {N:Nat} {gs:List (List Nat)} (hp:PcF (d+e) (prL L M) N gs) (hd:DefH n m (PG2 n m A B)):dfB n (pO (d+e) (prL L M))=true:=by
 obtain ⟨hN,hc⟩:=h.pgc hp;have hH:=pg_isG h.ga h.gb;refine dfB_yes fun i hi=>?_
 have hlt:n+i<n+m:=by unfold pO at hi; rw [List.length_map,hc.lenO] at hi; exact hi
 have h3:n+i<(pOR (d+e) (prL L M)).1.length:=by rw [hc.lenO]; exact hlt
 have hone:∀ q∈(pOR (d+e) (prL L M)).1.getD (n+i) [],q=n+i:=fun q hq=>by
  obtain ⟨x,⟨hx,fx⟩,rfl⟩:=(hc.orb (n+i) _ hlt).1 hq;obtain ⟨a,b,h1,h2,rfl⟩:=pg_split h.ga h.gb hx;have g1:=(Cm.Gr.isG (gs:=(·∈A)) h.ga).gd _ h1;have g2:=(Cm.Gr.isG (gs:=(·∈B)) h.gb).gd _ h2
  have e:a=Ma.oneN n:=Cm.gd_ext g1.2 (Ma.len_oneN n) fun j hj=>by rw [← ap_jn1 (m:=m) (b:=b) g1 hj,fx j (by omega),Cm.ap_one hj]
  subst e;rw [hd b g2 hx,jn_one,Cm.ap_one hlt]
 have hasc:=hc.asc (n+i) hlt
 have e9:((pO (d+e) (prL L M))[n+i]).length=((pOR (d+e) (prL L M)).1.getD (n+i) []).length:=by
  rw [List.getD_eq_getElem?_getD,List.getElem?_eq_getElem h3,Option.getD_some]
  have h9:(pO (d+e) (prL L M))[n+i]=Ma.ofN ((pOR (d+e) (prL L M)).1[n+i]):=by
   show (List.map Ma.ofN (pOR (d+e) (prL L M)).1)[n+i]'hi=_;exact List.getElem_map ..
  rw [h9,Ma.len_ofN]
 rw [e9]
 match hl:(pOR (d+e) (prL L M)).1.getD (n+i) [] with
 | []=>simp
 | [_]=>simp
 | a :: b :: l =>
  rw [hl] at hone hasc;have h1:=hone a (by simp);have h2:=hone b (by simp);have h4:=(List.pairwise_cons.1 hasc).1 b (by simp);omega
end Go.Proofs.YthehbckogieimaaGreat

namespace Go.Proofs.YthehbckogieimaaGreat
open Go.RowKit
open Go.Proofs
open Go.Proofs.Ob
open Go.Proofs.Cm (Gd Gr)
attribute [local irreducible] Go.Calls Go.wpList
def AsksI (F:FuncId) (caps:Array Value) (mv:List Int) (p:Int→Bool) (w:World):Prop :=
 ∀ x,x∈mv→∀ w1,Below w.heap.size w w1→Calls Tryz.prog F (#[.int .i64 x]++caps) w1 fun e w2=>e=.returned (.bool (p x))∧Below w1.heap.size w1 w2
def idxJ (mv:List Int) (p:Int→Bool):Int:=match mv.findIdx? p with
 | some i=>i
 | none=>-1
theorem idxJ_hit {mv:List Int} {p:Int→Bool} {k:Nat} (hk:k<mv.length) (h:∀ i (hi:i<mv.length),i<k→p mv[i]=false) (hp:p mv[k]=true):idxJ mv p=k:=by
 have:mv.findIdx? p=some k:=by
  rw [List.findIdx?_eq_some_iff_getElem];exact ⟨hk,hp,fun j hj=>by simp [h j (by omega) hj]⟩
 unfold idxJ; rw [this]
theorem idxJ_none {mv:List Int} {p:Int→Bool} (h:∀ i (hi:i<mv.length),p mv[i]=false):idxJ mv p = -1:=by
 have:mv.findIdx? p=none:=by
  rw [List.findIdx?_eq_none_iff];intro x hx;obtain ⟨i,hi,rfl⟩:=List.getElem_of_mem hx;exact h i hi
 unfold idxJ; rw [this]
theorem indexFuncI_any (mvv:Value) (mv:List Int) (F:FuncId) (caps:Array Value) (p:Int→Bool) (w:World) (h:Rg.Ints w mvv mv) (hl:mv.length≤1000) (hF:∀ args w,(callFunc F args).run Tryz.prog w=.ok (.enter F args) w) (hf:AsksI F caps mv p w) :
  Calls Tryz.prog 201 #[mvv,.func (.func F) #[] caps] w fun e w'=>e=.returned (.int .i64 (idxJ mv p))∧Below w.heap.size w w':=by
 obtain ⟨ad,cap,rfl,hc,hm,_,hcell⟩:=h.shape;have Hr:=ι hcell;have HF:=ι hf;clear h hcell hf
 go_enter Tryz.func201,Tryz.ntmps201
 go_wp2
 go_loopw [8] (fun vi wr=>∃ k:Nat,k≤mv.length∧vi=.int .i64 k∧Hid (∀ i (hi:i<mv.length),i<k→p mv[i]=false)∧Hid (Below w.heap.size w wr)) (fun vi _=>mv.length - (intOf vi).toNat)
 case atStart=>exact ⟨0,by omega,rfl,fun i hi h0=>by omega,Below.refl _ _⟩
 case round =>
  obtain ⟨k,hk,rfl,hno,hb⟩:=hrel
  by_cases hlt:k<mv.length
  ·obtain ⟨b,o,rfl,hbl,hbr⟩:=Hr.out (by omega)
   have eu:=hbr k hlt;obtain ⟨x,hx⟩:∃ x,x=mv[k]:=⟨_,rfl⟩;rw [← hx] at eu;have e0:wr.cell? ⟨b,o+k,none⟩=some (.int .i64 x):=(hb.out.cell (p:=⟨b,o+k,none⟩) hbl).trans eu;have hcall:=HF.out x (by rw [hx]; exact List.getElem_mem _) wr hb.out;have hlt':=ι hlt;have Hx:=ι hx;clear hbr eu hx
   cases hp:p x
   ·have Hp:=ι hp
    have Hcall:=ι (show Calls Tryz.prog F (#[.int .i64 x]++caps) wr (fun e w2=>e=.returned (.bool false)∧Below wr.heap.size wr w2) from hcall.mono fun e w2 ⟨h1,h2⟩=>⟨h1.trans (by rw [Hp.out]),h2⟩);clear hcall hp
    go_wp2_with (refine Hcall.out.mono ?_; rintro e w1 ⟨rfl,hb1⟩)
    go_roundw
    case rel=>exact ⟨k+1,by omega,by go_num,fun i hi h0=>(by
     rcases Nat.lt_or_ge i k with h1 | h1
     ·exact hno.out i hi h1
     ·obtain rfl:i=k:=by omega
      rw [← Hx.out]; exact Hp.out),Rg.acc hb.out hb1⟩
    case measure=>simp [intOf]; omega
   ·have Hp:=ι hp
    have Hcall:=ι (show Calls Tryz.prog F (#[.int .i64 x]++caps) wr (fun e w2=>e=.returned (.bool true)∧Below wr.heap.size wr w2) from hcall.mono fun e w2 ⟨h1,h2⟩=>⟨h1.trans (by rw [Hp.out]),h2⟩);clear hcall hp
    go_wp2_with (refine Hcall.out.mono ?_; rintro e w1 ⟨rfl,hb1⟩)
    go_ret;exact ⟨Rg.ret_int (idxJ_hit hlt'.out hno.out (by rw [← Hx.out]; exact Hp.out)).symm,Rg.acc hb.out hb1⟩
  ·obtain rfl:k=mv.length:=by omega
   go_wp2;go_ret;exact ⟨Rg.ret_int (idxJ_none (fun i hi=>hno.out i hi hi)).symm,hb.out⟩
end Go.Proofs.YthehbckogieimaaGreat
