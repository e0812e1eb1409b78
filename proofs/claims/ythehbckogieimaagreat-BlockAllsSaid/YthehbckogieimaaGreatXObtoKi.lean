/- Lemmas and contracts on the way to the statement; no condition of their own beyond those written. -/
import Derived.Test.YthehbckogieimaaGreatXHatoOa
import Derived.Lib.Hide
import Derived.Deep.CutRange
import Derived.Deep.CutBlock
import Derived.IntWalk
import Derived.Great.BuildSlice
import Derived.ArgAppend
import Derived.Laws.CopyOwn
import Derived.StillTailTactics
import Derived.Deep.MidRow
import Derived.WalkSpells
import Derived.WalkLawsBesides
import Derived.Maps.AppendAt
import Derived.OwnWalk
import Derived.OrdersHeld
import Derived.Deep.OwnRows
import Derived.WalkKit
import Derived.Laws.OwnMore
import Derived.Test.YthehbckogieimaaGreatProg
import Derived.Outline
import Derived.Deep.DeepFit
import Derived.BigQuiet
import Derived.Deep.QuietTactic
import Derived.MapKept
import Derived.ChangeMaps5
set_option linter.unusedVariables false
set_option linter.unusedSimpArgs false
set_option maxRecDepth 100000
set_option maxHeartbeats 8000000
namespace Go.Proofs.Ob
def insA:List Int→Int→List Int
 | [],x=>[x]
 | a :: r,x=>if a<x then a :: insA r x else x :: a :: r
def asc (l:List Int):List Int:=l.foldl insA []
def leI (x y:Int):Bool:=decide (x≤y)
theorem insA_at:∀ (out:List Int) (x:Int) (k:Nat),k≤out.length→(∀ j (h:j<out.length),j<k→out[j]<x)→(∀ h:k<out.length,¬ out[k]<x)→insA out x=out.take k++x :: out.drop k
 | [],x,k,hk,_,_=>by
  simp at hk; subst hk; rfl
 | a :: r,x,0,_,_,h=>by
  have:=h (by simp);simp at this;show (if a<x then _ else _)=_;rw [if_neg (by omega)]; rfl
 | a :: r,x,k+1,hk,h1,h2=>by
  have h0:=h1 0 (by simp) (by omega);simp at h0;show (if a<x then _ else _)=_;rw [if_pos h0,insA_at r x k (by simpa using hk) (fun j h hj=>by have:=h1 (j+1) (by simp; omega) (by omega); simpa using this) (fun h=>by have:=h2 (by simp; omega); simpa using this)];rfl
theorem insA_perm:∀ (out:List Int) (x:Int),(insA out x).Perm (x :: out)
 | [],x=>List.Perm.refl _
 | a :: r,x=>by
  show (if a<x then a :: insA r x else x :: a :: r).Perm _
  split
  ·exact ((insA_perm r x).cons a).trans (List.Perm.swap x a r)
  ·exact List.Perm.refl _
theorem insA_sorted:∀ (out:List Int) (x:Int),out.Pairwise (·≤·)→(insA out x).Pairwise (·≤·)
 | [],x,_=>by simp [insA]
 | a :: r,x,h=>by
  rw [List.pairwise_cons] at h;show (if a<x then a :: insA r x else x :: a :: r).Pairwise _
  split
  ·rename_i hax
   rw [List.pairwise_cons];refine ⟨fun y hy=>?_,insA_sorted r x h.2⟩
   rcases List.mem_cons.1 ((insA_perm r x).mem_iff.1 hy) with rfl | hy
   ·omega
   ·exact h.1 y hy
  ·rename_i hax
   rw [List.pairwise_cons,List.pairwise_cons];refine ⟨fun y hy=>?_,h.1,h.2⟩
   rcases List.mem_cons.1 hy with rfl | hy
   ·omega
   ·have:=h.1 y hy; omega
theorem asc_fold:∀ (l out:List Int),out.Pairwise (·≤·)→(l.foldl insA out).Perm (l++out)∧(l.foldl insA out).Pairwise (·≤·)
 | [],out,h=>⟨List.Perm.refl _,h⟩
 | x :: l,out,h=>by
  obtain ⟨h1,h2⟩:=asc_fold l (insA out x) (insA_sorted out x h);refine ⟨h1.trans ?_,h2⟩;exact ((insA_perm out x).append_left l).trans (List.perm_middle)
theorem sorted_uniq:∀ {l l':List Int},l.Perm l'→l.Pairwise (·≤·)→l'.Pairwise (·≤·)→l=l'
 | [],l',h,_,_=>(List.nil_perm.1 h).symm▸rfl
 | a :: r,[],h,_,_=>by simp at h
 | a :: r,b :: r',h,h1,h2=>by
  rw [List.pairwise_cons] at h1 h2
  have e1:a≤b:=by
   rcases List.mem_cons.1 (h.mem_iff.2 (List.mem_cons_self ..):b∈a :: r) with e | hb
   ·omega
   ·exact h1.1 b hb
  have e2:b≤a:=by
   rcases List.mem_cons.1 (h.mem_iff.1 (List.mem_cons_self ..):a∈b :: r') with e | hb
   ·omega
   ·exact h2.1 a hb
  obtain rfl:a=b:=by omega
  rw [sorted_uniq ((List.perm_cons a).1 h) h1.2 h2.2]
theorem asc_sort (l:List Int):asc l=l.mergeSort leI:=by
 obtain ⟨h1,h2⟩:=asc_fold l [] List.Pairwise.nil;rw [List.append_nil] at h1;refine sorted_uniq (h1.trans (List.mergeSort_perm l leI).symm) h2 ?_;have:=List.pairwise_mergeSort (le:=leI) (fun a b c h h'=>by unfold leI at *; rw [decide_eq_true_iff] at *; omega) (fun a b=>by unfold leI; simp; omega) l;exact this.imp (fun h=>of_decide_eq_true h)
theorem asc_succ (l:List Int) (k:Nat) (h:k<l.length):asc (l.take (k+1))=insA (asc (l.take k)) l[k]:=by
 unfold asc; rw [List.take_succ_eq_append_getElem h,List.foldl_append]; rfl
end Go.Proofs.Ob

namespace Go.Proofs.YthehbckogieimaaGreat
open Go.RowKit
open Go.Proofs
attribute [local irreducible] Go.Calls
def isPt (d p:Int):Bool:=decide (0≤p∧p<d)
theorem point_any (gv:Value) (d p:Int) (w:World):Calls Tryz.prog 241 #[.agg #[.int .i64 d,gv],.int .i64 p] w fun e w'=>e=.returned (.bool (isPt d p))∧Below w.heap.size w w':=by
 have hb:Below w.heap.size w (w.alloc (.cells #[.int .i64 d,gv] 24)):=(Below.refl _ _).alloc (Nat.le_refl _) _
 by_cases h0:0≤p
 ·by_cases h1:p<d
  ·have hv:isPt d p=true:=by unfold isPt; rw [decide_eq_true_iff]; exact ⟨h0,h1⟩
   have HV:=ι hv;clear hv
   go_enter Tryz.func241,Tryz.ntmps241
   go_wp2;go_ret;exact ⟨by rw [HV.out]; rfl,hb⟩
  ·have hv:isPt d p=false:=by unfold isPt; rw [decide_eq_false_iff_not]; omega
   have HV:=ι hv;clear hv
   go_enter Tryz.func241,Tryz.ntmps241
   go_wp2;go_ret;exact ⟨by rw [HV.out]; rfl,hb⟩
 ·have hv:isPt d p=false:=by unfold isPt; rw [decide_eq_false_iff_not]; omega
  have HV:=ι hv;clear hv
  go_enter Tryz.func241,Tryz.ntmps241
  go_wp2;go_ret;exact ⟨by rw [HV.out]; rfl,hb⟩
theorem Has_any (v:Value) (l:List Int) (x:Int) (w:World) (h:Rg.Ints w v l) :
  Calls Tryz.prog 308 #[v,.int .i64 x] w fun e w'=>e=.returned (.bool (decide (x∈l)))∧Below w.heap.size w w':=by
 obtain ⟨ad,cap,rfl,_,hlm,_,hcell⟩:=h.shape;have Hc:=ι hcell;clear hcell h
 go_enter Tryz.func308,Tryz.ntmps308
 go_wp2
 go_loopw [5] (fun i wr=>∃ k:Nat,k≤l.length∧i=.int .i64 k∧Hid (x∉l.take k)∧Hid (Below w.heap.size w wr)) (fun i _=>l.length - (intOf i).toNat)
 case atStart=>exact ⟨0,by omega,rfl,ι (by simp),ι (Below.refl _ _)⟩
 case round =>
  obtain ⟨k,hk,rfl,hs,hbel⟩:=hrel
  by_cases hlt:k<l.length
  ·obtain ⟨b,o,rfl,hb,hc⟩:=Hc.out (by omega)
   have c0:=(hbel.out.cell (p:=⟨b,o+k,none⟩) hb).trans (hc k hlt);obtain ⟨y,hy⟩:∃ y,Hid (y=l[k]):=⟨_,ι rfl⟩;rw [← hy.out] at c0
   have hkl:(k:Int)<(l.length:Int):=by omega
   clear hc hb
   by_cases he:y=x
   ·have hm:decide (x∈l)=true:=by rw [decide_eq_true_iff,← he,hy.out]; exact List.getElem_mem hlt
    have HM:=ι hm;clear hm
    have e1:(y == x)=true:=by simp [he]
    go_wp2;go_ret;exact ⟨by rw [HM.out]; rfl,hbel.out⟩
   ·have e1:(y == x)=false:=by simp [he]
    have HE:=ι he;go_wp2
    go_roundw
    case rel =>
     refine ⟨k+1,by omega,by go_num,ι ?_,hbel⟩;rw [List.take_succ_eq_append_getElem hlt,List.mem_append]
     rintro (hm | hm)
     ·exact hs.out hm
     ·rw [List.mem_singleton] at hm
      exact HE.out (hy.out.trans hm.symm)
    case measure=>simp [intOf]; omega
  ·obtain rfl:k=l.length:=by omega
   have hm:decide (x∈l)=false:=by rw [decide_eq_false_iff_not]; have:=hs.out; rwa [List.take_length] at this
   have HM:=ι hm;clear hm;go_wp2;go_ret;exact ⟨by rw [HM.out]; rfl,hbel.out⟩

def GPost (d:Int) (ll:List (List Int)) (w:World) (e:Ending) (w':World):Prop :=
 ∃ a n c,e=.returned (.agg #[.int .i64 d,.slice a n c])∧RowsF w.heap.size w' (.slice a n c) ll∧Below w.heap.size w w'
end Go.Proofs.YthehbckogieimaaGreat

namespace Go.Proofs.YthehbckogieimaaGreat
open Go.RowKit
open Go.Proofs
open Go.Proofs.Ob
attribute [local irreducible] Go.Calls
def pvs (T:List En):List Value:=(pts T).map fun (x:Nat)=>Value.int .i64 (x:Int)
theorem exec_nil {o:Oper} {a:Act} {w:World} {ad:Addr} (x:Operand) (ho:o.op=.nilCheck x) (hx:a.eval x=.pointer (some ad)):(execOp a.eval o).run Tryz.prog w=.ok (.value (.pointer (some ad))) w:=by
 unfold execOp;simp only [ho,hx,Sem.run_pure]
theorem exec_field {o:Oper} {a:Act} {w:World} {t:TypeId} {i:Nat} {v r:Value} (x:Operand) (ho:o.op=.fieldAddr t x i) (hx:a.eval x=v) (h:(Instr.fieldAt t v i).run Tryz.prog w=.ok r w):(execOp a.eval o).run Tryz.prog w=.ok (.value r) w:=by
 unfold execOp;simp only [ho,hx,Sem.run_bind,Sem.run_pure,h,Result.andThen_ok]
theorem exec_indexArr {o:Oper} {a:Act} {w:World} {t e:TypeId} {n:Nat} (x y:Operand) (ho:o.op=.indexAddr t x y) (hu:Tryz.prog.underlying t=some (.array n e)) (hsz:(Tryz.prog.info? e).map (·.size)=some 1) (b of i:Nat) (hx:a.eval x=.pointer (some ⟨b,of,none⟩)) (hy:a.eval y=.int .i64 (i:Int)) (hi:i<n) :
  (execOp a.eval o).run Tryz.prog w=.ok (.value (.pointer (some ⟨b,of+i,none⟩))) w:=by
 obtain ⟨ie,hie,hs⟩:=Option.map_eq_some_iff.1 hsz;have h1:(0:Int)≤(i:Int)∧(i:Int)<(n:Int):=⟨by omega,by omega⟩
 have hr:(Instr.indexAt t (.pointer (some ⟨b,of,none⟩)) (.int .i64 (i:Int))).run Tryz.prog w=.ok (.pointer (some ⟨b,of+i,none⟩)) w:=by
  simp [Instr.indexAt,asIntOf,run_underlying hu,sizeOf,typeInfo,hie,hs,h1,Addr.add,Instr.sureAddr]
  first | done | rfl | (rw [if_pos hi]; split <;> simp_all)
 unfold execOp;simp only [ho,hx,hy,Sem.run_bind,Sem.run_pure,hr,Result.andThen_ok]

theorem run_build1i (X:World) (x:Int):(Instr.buildSlice 36 1 #[(0,.int .i64 x)]).run Tryz.prog X=.ok (.slice (some ⟨X.heap.size,0,none⟩) 1 1) (X.alloc (.cells #[.int .i64 x] 3)):=by
 obtain ⟨i0,hi,hz0,hz1,hz2⟩:=info_parts intsInfo;refine run_buildSlice X 36 3 1 _ _ i0 _ Tryz.underlying36 hi hz0 (by rw [hz1]; decide) (by rw [hz1]; decide) ?_;generalize (fun x=>((Value.int IntKind.i64 0).cells)[x % (Value.int IntKind.i64 0).cells.size]!)=f;rw [hz1];have h1:Array.range (1*1)=#[0]:=rfl;simp [Instr.fill,Value.cells,h1]
theorem run_storeInt {w:World} {b o:Nat} {u:Value} (v:Int) (h:w.cell? ⟨b,o,none⟩=some u) (hf:w.frozen? ⟨b,o,none⟩=false) :
  (storeVar 3 ⟨b,o,none⟩ (.int .i64 v)).run Tryz.prog w=.ok () (w.setCell ⟨b,o,none⟩ (.int .i64 v)):=by
 obtain ⟨i0,hi,hz0,hz1,hz2⟩:=info_parts intsInfo
 have h0:(⟨b,o,none⟩:Addr).add 0=⟨b,o,none⟩:=by simp [Addr.add]
 simp [storeVar,sizeOf,typeInfo,hi,hz1,Value.cells,storeCells,store,h0];simp [Sem.run,h,hf]
theorem own_one (w:World) (B:Nat) (e:TypeId) (u:Value) (hB:B≤w.heap.size):(w.alloc (.cells #[u] e)).ownsRow B e 1 (.slice (some ⟨w.heap.size,0,none⟩) 1 1) 1 [u]:=by
 refine ⟨rfl,.inr ⟨w.heap.size,1,#[u],rfl,hB,?_,Nat.le_refl _,by unfold maxLen; omega,by simp,rfl⟩⟩;show (w.heap.push _)[w.heap.size]?=_;simp

theorem app_run {P:Program} {t e:TypeId} {z:Value} {bytes:Nat} (T:Rg.SlT P t e z bytes) (ty:TypeId) {B:Nat} {X:World} {v u:Value} {n:Nat} {xs:List Value} (hown:X.ownsRow B e 1 v n xs) (hX:B≤X.heap.size) (p c:Nat)
  (hu:X.cell? ⟨p,0,none⟩=some u) (h1:u.oneCell'=true) (hn:n<1000000) :
  ∃ v' X',(Builtin.append_ #[t,t] ty #[v,.slice (some ⟨p,0,none⟩) 1 c]).run P X=.ok v' X'∧X'.ownsRow B e 1 v' (n+1) (xs++[u])∧X.grownBy X' v.ownBlock∧(v'.ownBlock=v.ownBlock∨v'.ownBlock=some X.heap.size)∧∃ a c,v'=.slice a (n+1) c:=by
 obtain ⟨i0,hi,hz0,hz1,hz2⟩:=info_parts T.info
 obtain ⟨v',w',hr,h2,h3,h4,h5⟩:=run_append_own_at (P:=P) X B t ty e i0 z 1 bytes T.ty hi hz0 hz1 hz2 T.zc (by decide) v n xs hown ⟨p,0,none⟩ 1 c [u] rfl (fun j x hj=>by
  obtain rfl:j=0:=by have:=(List.getElem?_eq_some_iff.1 hj).1; simpa using this
  simp at hj; subst hj
  rw [show (⟨p,0,none⟩:Addr).add 0=⟨p,0,none⟩ from rfl]; exact hu) (by simpa using h1) (by unfold maxLen; omega) (by have:(n+1)*bytes≤1000000*64:=Nat.mul_le_mul (by omega) T.small; omega) hX
 exact ⟨v',w',hr,h2,h3,h5,Rg.row_shape h2⟩
theorem exec_indexS {o:Oper} {a:Act} {w:World} {t e:TypeId} {z:Value} {bytes:Nat} (T:Rg.SlT Tryz.prog t e z bytes) (x y:Operand) (ho:o.op=.indexAddr t x y) (b of len cap i:Nat) (hx:a.eval x=.slice (some ⟨b,of,none⟩) len cap) (hy:a.eval y=.int .i64 (i:Int)) (hi:i<len) :
  (execOp a.eval o).run Tryz.prog w=.ok (.value (.pointer (some ⟨b,of+i,none⟩))) w:=by
 have:=Rg.run_indexSl T w b of len cap i hi;unfold execOp;simp only [ho,hx,hy,Sem.run_bind,Sem.run_pure,Result.andThen_ok,this]
theorem szI:(Tryz.prog.info? 3).map (·.size)=some 1:=by kernel_rfl

def GG (d:Nat) (gs:List (List Nat)):Prop:=∀ s∈gs,Ma.okN s∧s.length=d
theorem getD_at {gs:List (List Nat)} {s:Nat} (hs:s<gs.length):gs.getD s []=gs[s]:=by
 rw [List.getD_eq_getElem?_getD,List.getElem?_eq_getElem hs,Option.getD_some]
theorem img_get {gs:List (List Nat)} {s x:Nat} (hs:s<gs.length) (hx:x<gs[s].length):img gs s x=gs[s][x]:=by
 unfold img;rw [getD_at hs,Ma.getD_lt hx]
theorem GG.cl {D:Nat} {gs:List (List Nat)} (h:GG D gs):Cl D gs:=fun s hs x hx=>by
 obtain ⟨h1,h2⟩:=h _ (List.getElem_mem hs);rw [img_get hs (by omega)];have:=h1.1 _ (List.getElem_mem (show x<gs[s].length by omega));omega
theorem own_mono {w:World} {B B':Nat} {e:TypeId} {v:Value} {n:Nat} {xs:List Value} (h:w.ownsRow B e 1 v n xs) (hb:B'≤B):w.ownsRow B' e 1 v n xs:=by
 obtain ⟨h1,h2⟩:=h;refine ⟨h1,?_⟩
 rcases h2 with h2 | ⟨g,cap,cur,a,b,c⟩
 ·exact .inl h2
 ·exact .inr ⟨g,cap,cur,a,Nat.le_trans hb b,c⟩
theorem mix:Tryz.prog.follows .mixedOrders=true:=by kernel_rfl

theorem own_cases {w:World} {B:Nat} {e:TypeId} {n:Nat} {v:Value} {xs:List Value} (h:w.ownsRow B e 1 v n xs):(v=.slice none 0 0∧n=0)∨∃ g cap F,v=.slice (some ⟨g,0,none⟩) n cap∧w.rowIs g e cap F∧n≤cap∧cap≤maxLen∧B≤g∧∀ j (hj:j<xs.length),F j=xs[j]:=by
 obtain ⟨h1,h2⟩:=h
 rcases h2 with h2 | ⟨g,cap,cur,hv,hB,hh,hnc,hcm,hcs,ht⟩
 ·exact .inl h2
 ·refine .inr ⟨g,cap,fun j=>cur[j]?.getD undef,hv,⟨cur,hh,by omega,fun i hi=>?_⟩,hnc,hcm,hB,fun j hj=>?_⟩
  ·simp [Array.getElem?_eq_getElem (show i<cur.size by omega)]
  ·have h3:xs[j]?=cur[j]?:=by
    rw [← ht,List.getElem?_take,if_pos (by omega)]; simp
   rw [List.getElem?_eq_getElem hj] at h3;show cur[j]?.getD undef=_;rw [← h3]; rfl

def toNs (ll:List (List Int)):List (List Nat):=ll.map fun l=>l.map Int.toNat
theorem toNs_ofN (gs:List (List Nat)):toNs (gs.map Ma.ofN)=gs:=by
 unfold toNs;rw [List.map_map]
 conv=>rhs; rw [← List.map_id gs]
 refine List.map_congr_left fun l _=>?_;show (Ma.ofN l).map Int.toNat=l;unfold Ma.ofN;rw [List.map_map]
 conv=>rhs; rw [← List.map_id l]
 exact List.map_congr_left fun x _=>by simp
theorem gchk_ok {d:Int} {ll:List (List Int)} (h:Ma.gchk d ll=0):∃ (D:Nat) (gs:List (List Nat)),d=D∧ll=gs.map Ma.ofN∧GG D gs∧1≤D∧D≤64∧gs.length≤16:=by
 unfold Ma.gchk at h
 split at h
 ·rename_i h1
  split at h
  ·rename_i h2
   have hz:=Ma.gck_zero h;obtain ⟨D,rfl⟩:∃ D:Nat,d=D:=⟨d.toNat,by omega⟩
   have hex:∀ l∈ll,∃ p,l=Ma.ofN p∧Ma.okN p∧p.length=D:=fun l hl=>by
    obtain ⟨a,b⟩:=hz l hl;obtain ⟨_,_,c⟩:=Ma.pchk_zero a;obtain ⟨p,rfl,hp⟩:=Ma.okL_ofN c;rw [Ma.len_ofN] at b;exact ⟨p,rfl,hp,by omega⟩
   clear h hz
   have:∃ gs:List (List Nat),ll=gs.map Ma.ofN∧GG D gs:=by
    clear h2
    induction ll with
    | nil=>exact ⟨[],rfl,fun s hs=>by simp at hs⟩
    | cons l r ih =>
     obtain ⟨gs,rfl,hg⟩:=ih (fun x hx=>hex x (List.mem_cons_of_mem _ hx));obtain ⟨p,rfl,h3,h4⟩:=hex l (List.mem_cons_self ..)
     exact ⟨p :: gs,rfl,fun s hs=>by
      rcases List.mem_cons.1 hs with rfl | hs
      ·exact ⟨h3,h4⟩
      ·exact hg s hs⟩
   obtain ⟨gs,rfl,hg⟩:=this;exact ⟨D,gs,rfl,rfl,hg,by omega,by omega,by simpa using h2⟩
  ·simp at h
 ·simp at h
def LPost (r:List Int × Int) (w:World) (e:Ending) (w':World):Prop:=∃ v,e=.returned (.tuple #[v,.int .i64 r.2])∧Rg.Ints w' v r.1∧Below w.heap.size w w'
theorem isPt_nat {d p:Int} (h:isPt d p=true):0≤p∧p<d:=of_decide_eq_true h

def ptE (d:Int) (ll:List (List Int)) (p:Int):Int:=if Ma.gchk d ll=0 then (if isPt d p=true then 0 else 2) else Ma.gchk d ll
theorem ptE_zero {d:Int} {ll:List (List Int)} {p:Int} (h:ptE d ll p=0):Ma.gchk d ll=0∧isPt d p=true:=by
 unfold ptE at h
 split at h
 ·rename_i h1
  split at h
  ·rename_i h2; exact ⟨h1,h2⟩
  ·simp at h
 ·rename_i h1; exact absurd h h1
theorem refPoint_any (gv:Value) (d:Int) (ll:List (List Int)) (p:Int) (w:World) (h:Rg.Rows w gv ll) :
  Calls Tryz.prog 307 #[.agg #[.int .i64 d,gv],.int .i64 p] w fun e w'=>e=.returned (.int .i64 (ptE d ll p))∧Below w.heap.size w w':=by
 have hv:=h;obtain ⟨ga,gc,rfl,_⟩:=h.shape;have hba:Below w.heap.size w (w.alloc (.cells #[.int .i64 d,.slice ga ll.length gc] 24)):=(Below.refl _ _).alloc (Nat.le_refl _) _
 have hc0:(w.alloc (.cells #[.int .i64 d,.slice ga ll.length gc] 24)).cell? ⟨w.heap.size,0,none⟩=some (.int .i64 d):=by rw [Rg.cellNew]; rfl
 have hlt:w.heap.size<(w.alloc (.cells #[.int .i64 d,.slice ga ll.length gc] 24)).heap.size:=by simp
 have hck:=ref07Check_any (.slice ga ll.length gc) d ll _ (hv.below hba)
 by_cases hz:Ma.gchk d ll=0
 ·rw [hz] at hck
  have HCK:=ι hck;have K:=ι hba;have hpe:ptE d ll p=if isPt d p=true then 0 else 2:=if_pos hz;rw [hpe];have hip:isPt d p=decide (0≤p∧p<d):=rfl;clear hck hba h hv hz hpe
  by_cases h0:p<0
  ·have hr:(if isPt d p=true then (0:Int) else 2)=2:=if_neg (by rw [hip,decide_eq_true_iff]; omega)
   rw [hr];clear hr hip
   go_enter Tryz.func307,Tryz.ntmps307
   go_wp2_with (go_at_call 92; refine HCK.out.mono ?_; rintro e w1 ⟨rfl,hb1⟩; replace hc0:=(hb1.cell (p:=⟨w.heap.size,0,none⟩) hlt).trans hc0; replace K:=ι (Rg.acc K.out hb1); clear hb1)
   go_ret;exact ⟨rfl,K.out⟩
  ·by_cases h1:d≤p
   ·have hr:(if isPt d p=true then (0:Int) else 2)=2:=if_neg (by rw [hip,decide_eq_true_iff]; omega)
    rw [hr];clear hr hip
    go_enter Tryz.func307,Tryz.ntmps307
    go_wp2_with (go_at_call 92; refine HCK.out.mono ?_; rintro e w1 ⟨rfl,hb1⟩; replace hc0:=(hb1.cell (p:=⟨w.heap.size,0,none⟩) hlt).trans hc0; replace K:=ι (Rg.acc K.out hb1); clear hb1)
    go_ret;exact ⟨rfl,K.out⟩
   ·have hr:(if isPt d p=true then (0:Int) else 2)=0:=if_pos (by rw [hip,decide_eq_true_iff]; omega)
    rw [hr];clear hr hip
    go_enter Tryz.func307,Tryz.ntmps307
    go_wp2_with (go_at_call 92; refine HCK.out.mono ?_; rintro e w1 ⟨rfl,hb1⟩; replace hc0:=(hb1.cell (p:=⟨w.heap.size,0,none⟩) hlt).trans hc0; replace K:=ι (Rg.acc K.out hb1); clear hb1)
    go_ret;exact ⟨rfl,K.out⟩
 ·have hpe:ptE d ll p=Ma.gchk d ll:=if_neg hz
  rw [hpe]
  have hz':(Ma.gchk d ll != 0)=true:=by simp [hz]
  have HCK:=ι hck;have K:=ι hba;clear hck hba h hv hz hpe
  go_enter Tryz.func307,Tryz.ntmps307
  go_wp2_with (go_at_call 92; refine HCK.out.mono ?_; rintro e w1 ⟨rfl,hb1⟩; replace K:=ι (Rg.acc K.out hb1); clear hb1)
  go_ret;exact ⟨rfl,K.out⟩

theorem app_run2 {P:Program} {t e:TypeId} {z:Value} {bytes:Nat} (T:Rg.SlT P t e z bytes) (ty:TypeId) {B:Nat} {X:World} {v u:Value} {n:Nat} {xs:List Value} (hown:X.ownsRow B e 1 v n xs) (hX:B≤X.heap.size) (p c:Nat)
  (hu:X.cell? ⟨p,0,none⟩=some u) (h1:u.oneCell'=true) (hn:n<1000000) :
  ∃ v' X',(Builtin.append_ #[t,t] ty #[v,.slice (some ⟨p,0,none⟩) 1 c]).run P X=.ok v' X'∧X'.ownsRow B e 1 v' (n+1) (xs++[u])∧X.grownBy X' v.ownBlock∧(v'.ownBlock=v.ownBlock∨v'.ownBlock=some X.heap.size)∧(∃ a c,v'=.slice a (n+1) c) ∧
   (∀ g,v.ownBlock=some g→∀ i,i<n→X'.cell? ⟨g,i,none⟩=X.cell? ⟨g,i,none⟩):=by
 obtain ⟨v',X',r1,r2,r3,r4,r5⟩:=app_run T ty hown hX p c hu h1 hn;refine ⟨v',X',r1,r2,r3,r4,r5,fun g hg i hi=>?_⟩;obtain ⟨i0,hi0,hz0,hz1,hz2⟩:=info_parts T.info;have ho:=hown
 obtain ⟨hl,⟨rfl,_⟩ | ⟨g',cap,cur,rfl,hB,hh,hnc,hcm,hcs,ht⟩⟩:=hown
 ·simp [Value.ownBlock] at hg
 ·have hgg:g'=g:=by simpa [Value.ownBlock] using hg
  subst hgg
  by_cases hroom:n+1≤cap
  ·have hR:=run_append_room (P:=P) X t ty e i0 T.ty hi0 g' n cap cur hh ⟨p,0,none⟩ 1 c [u] (by rw [hz1]; rfl) (fun j x hj=>by
    obtain rfl:j=0:=by have:=(List.getElem?_eq_some_iff.1 hj).1; simpa using this
    simp at hj; subst hj
    rw [show (⟨p,0,none⟩:Addr).add 0=⟨p,0,none⟩ from rfl]; exact hu) (by simpa using h1) hroom (by rw [hz1,hcs]; simp; omega)
   rw [r1] at hR
   injection hR with e1 e2
   subst e1;have c1:=r2.cellAt (j:=i) (by omega);have c2:=ho.cellAt (j:=i) (by omega);rw [c1,c2,List.getElem?_append_left (by omega)]
  ·obtain rfl:n=cap:=by omega
   have hR:=Rg.full_run (P:=P) T ty g' 0 n xs (by omega) (fun j hj=>by
    have c2:=ho.cellAt (j:=j) (by omega)
    rw [Nat.zero_add,c2,List.getElem?_eq_getElem hj]) p c hu hn
   obtain ⟨v2,X2,q1,_,q3,_⟩:=hR;rw [r1] at q1
   injection q1 with e1 e2
   subst e2;exact q3.cell (p:=⟨g',i,none⟩) (Array.getElem?_eq_some_iff.1 hh).1
def ivz (l:List Int):List Value:=l.map (Value.int .i64)
theorem ivz_snoc (l:List Int) (x:Int):ivz (l++[x])=ivz l++[.int .i64 x]:=by simp [ivz]
structure T3 (B:Nat) (w:World) (v1 v2 v3:Value) (l1 l2 l3:List Int):Prop where
 o1:w.ownsRow B 3 1 v1 l1.length (ivz l1)
 o2:w.ownsRow B 3 1 v2 l2.length (ivz l2)
 o3:w.ownsRow B 3 1 v3 l3.length (ivz l3)
 a12:Rg.Apart v1 v2
 a13:Rg.Apart v1 v3
 a23:Rg.Apart v2 v3
def Tmp (w:World) (p:Nat) (x:Int) (v1 v2 v3:Value):Prop:=p<w.heap.size∧w.cell? ⟨p,0,none⟩=some (.int .i64 x)∧v1.ownBlock≠some p∧v2.ownBlock≠some p∧v3.ownBlock≠some p
theorem T3.below {B:Nat} {w w':World} {v1 v2 v3:Value} {l1 l2 l3:List Int} (h:T3 B w v1 v2 v3 l1 l2 l3) (hb:Below w.heap.size w w'):T3 B w' v1 v2 v3 l1 l2 l3 :=
 ⟨Rg.row_below h.o1 hb,Rg.row_below h.o2 hb,Rg.row_below h.o3 hb,h.a12,h.a13,h.a23⟩
theorem Tmp.below {w w':World} {p:Nat} {x:Int} {v1 v2 v3:Value} (h:Tmp w p x v1 v2 v3) (hb:Below w.heap.size w w'):Tmp w' p x v1 v2 v3 :=
 ⟨Nat.lt_of_lt_of_le h.1 hb.size,(hb.cell (p:=⟨p,0,none⟩) h.1).trans h.2.1,h.2.2⟩
theorem T3.tmp {B:Nat} {w:World} {v1 v2 v3:Value} {l1 l2 l3:List Int} (h:T3 B w v1 v2 v3 l1 l2 l3) (x:Int):Tmp (w.alloc (.cells #[.int .i64 x] 3)) w.heap.size x v1 v2 v3 :=
 ⟨by simp,by rw [Rg.cellNew]; rfl,fun e=>by have:=(h.o1.lt _ e).2; omega,fun e=>by have:=(h.o2.lt _ e).2; omega,fun e=>by have:=(h.o3.lt _ e).2; omega⟩
theorem ob_new {v v':Value} {s p:Nat} (h:v'.ownBlock=v.ownBlock∨v'.ownBlock=some s) (h1:v.ownBlock≠some p) (hp:p<s):v'.ownBlock≠some p:=by
 rcases h with h | h
 ·rw [h]; exact h1
 ·rw [h]; simp; omega
theorem T3.app1 {B:Nat} {w:World} {v1 v2 v3:Value} {l1 l2 l3:List Int} (h:T3 B w v1 v2 v3 l1 l2 l3) (hB:B≤w.heap.size) {p:Nat} {x:Int} (hp:Tmp w p x v1 v2 v3) (hl:l1.length<1000000) (ty:TypeId) :
  ∃ a c X,(Builtin.append_ #[36,36] ty #[v1,.slice (some ⟨p,0,none⟩) 1 1]).run Tryz.prog w=.ok (.slice a (l1.length+1) c) X∧T3 B X (.slice a (l1.length+1) c) v2 v3 (l1++[x]) l2 l3∧w.heap.size≤X.heap.size ∧
   (∀ p' x',Tmp w p' x' v1 v2 v3→Tmp X p' x' (.slice a (l1.length+1) c) v2 v3)∧(∀ g,v1.ownBlock=some g→∀ i,i<l1.length→X.cell? ⟨g,i,none⟩=w.cell? ⟨g,i,none⟩)∧(∀ {B0:Nat} {W0:World},B0≤B→Below B0 W0 w→Below B0 W0 X):=by
 obtain ⟨v',X,r1,r2,r3,r4,⟨a,c,rfl⟩,r6⟩:=app_run2 (P:=Tryz.prog) slInts ty h.o1 hB p 1 hp.2.1 rfl hl;refine ⟨a,c,X,r1,⟨by rw [ivz_snoc,List.length_append]; exact r2,h.a12.keep h.o2 r3,h.a13.keep h.o3 r3,h.a12.grow h.o2 r4 (Nat.le_refl _),h.a13.grow h.o3 r4 (Nat.le_refl _),h.a23⟩,r3.size,fun p' x' ht=>?_,r6,fun h0 hb=>hb.grown r3 (by omega) (fun j hj=>by have:=(h.o1.lt j hj).1; omega)⟩;exact ⟨Nat.lt_of_lt_of_le ht.1 r3.size,r3.cell ht.2.1 (fun e=>ht.2.2.1 e.symm),ob_new r4 ht.2.2.1 ht.1,ht.2.2.2⟩
theorem T3.app2 {B:Nat} {w:World} {v1 v2 v3:Value} {l1 l2 l3:List Int} (h:T3 B w v1 v2 v3 l1 l2 l3) (hB:B≤w.heap.size) {p:Nat} {x:Int} (hp:Tmp w p x v1 v2 v3) (hl:l2.length<1000000) (ty:TypeId) :
  ∃ a c X,(Builtin.append_ #[36,36] ty #[v2,.slice (some ⟨p,0,none⟩) 1 1]).run Tryz.prog w=.ok (.slice a (l2.length+1) c) X∧T3 B X v1 (.slice a (l2.length+1) c) v3 l1 (l2++[x]) l3∧w.heap.size≤X.heap.size ∧
   (∀ p' x',Tmp w p' x' v1 v2 v3→Tmp X p' x' v1 (.slice a (l2.length+1) c) v3)∧(∀ {B0:Nat} {W0:World},B0≤B→Below B0 W0 w→Below B0 W0 X):=by
 obtain ⟨v',X,r1,r2,r3,r4,⟨a,c,rfl⟩,r6⟩:=app_run2 (P:=Tryz.prog) slInts ty h.o2 hB p 1 hp.2.1 rfl hl;refine ⟨a,c,X,r1,⟨h.a12.symm.keep h.o1 r3,by rw [ivz_snoc,List.length_append]; exact r2,h.a23.keep h.o3 r3,(h.a12.symm.grow h.o1 r4 (Nat.le_refl _)).symm,h.a13,h.a23.grow h.o3 r4 (Nat.le_refl _)⟩,r3.size,fun p' x' ht=>?_,fun h0 hb=>hb.grown r3 (by omega) (fun j hj=>by have:=(h.o2.lt j hj).1; omega)⟩;exact ⟨Nat.lt_of_lt_of_le ht.1 r3.size,r3.cell ht.2.1 (fun e=>ht.2.2.2.1 e.symm),ht.2.2.1,ob_new r4 ht.2.2.2.1 ht.1,ht.2.2.2.2⟩
theorem T3.app3 {B:Nat} {w:World} {v1 v2 v3:Value} {l1 l2 l3:List Int} (h:T3 B w v1 v2 v3 l1 l2 l3) (hB:B≤w.heap.size) {p:Nat} {x:Int} (hp:Tmp w p x v1 v2 v3) (hl:l3.length<1000000) (ty:TypeId) :
  ∃ a c X,(Builtin.append_ #[36,36] ty #[v3,.slice (some ⟨p,0,none⟩) 1 1]).run Tryz.prog w=.ok (.slice a (l3.length+1) c) X∧T3 B X v1 v2 (.slice a (l3.length+1) c) l1 l2 (l3++[x])∧w.heap.size≤X.heap.size ∧
   (∀ {B0:Nat} {W0:World},B0≤B→Below B0 W0 w→Below B0 W0 X):=by
 obtain ⟨v',X,r1,r2,r3,r4,⟨a,c,rfl⟩,r6⟩:=app_run2 (P:=Tryz.prog) slInts ty h.o3 hB p 1 hp.2.1 rfl hl;exact ⟨a,c,X,r1,⟨h.a13.symm.keep h.o1 r3,h.a23.symm.keep h.o2 r3,by rw [ivz_snoc,List.length_append]; exact r2,h.a12,(h.a13.symm.grow h.o1 r4 (Nat.le_refl _)).symm,(h.a23.symm.grow h.o2 r4 (Nat.le_refl _)).symm⟩,r3.size,fun h0 hb=>hb.grown r3 (by omega) (fun j hj=>by have:=(h.o3.lt j hj).1; omega)⟩

theorem mem_ofN (l:List Nat) (x:Nat):(x:Int)∈Ma.ofN l↔x∈l:=by
 unfold Ma.ofN;rw [List.mem_map]
 constructor
 ·rintro ⟨y,hy,e⟩
  obtain rfl:y=x:=by omega
  exact hy
 ·exact fun h=>⟨x,h,rfl⟩
def prs (T:List En):List Int:=T.map (·.2.1)
def gns (T:List En):List Int:=T.map fun e=>(e.2.2.1:Int)
def TrPost (r:List Int × List Int × List Int) (er:Int) (w:World) (e:Ending) (w':World):Prop :=
 ∃ v1 v2 v3,e=.returned (.tuple #[v1,v2,v3,.int .i64 er])∧Rg.Ints w' v1 r.1∧Rg.Ints w' v2 r.2.1∧Rg.Ints w' v3 r.2.2∧Below w.heap.size w w'
theorem T3.bld {B:Nat} {w:World} {v1 v2 v3:Value} {l1 l2 l3:List Int} (h:T3 B w v1 v2 v3 l1 l2 l3) (x:Int):T3 B (w.alloc (.cells #[.int .i64 x] 3)) v1 v2 v3 l1 l2 l3∧Tmp (w.alloc (.cells #[.int .i64 x] 3)) w.heap.size x v1 v2 v3∧Below w.heap.size w (w.alloc (.cells #[.int .i64 x] 3)) :=
 ⟨h.below ((Below.refl _ _).alloc (Nat.le_refl _) _),h.tmp x,(Below.refl _ _).alloc (Nat.le_refl _) _⟩
theorem T3.ints1 {B:Nat} {w:World} {v1 v2 v3:Value} {l1 l2 l3:List Int} (h:T3 B w v1 v2 v3 l1 l2 l3) (hl:l1.length≤1000000000):Rg.Ints w v1 l1:=Rg.Ints.of_row h.o1 hl
theorem T3.ints2 {B:Nat} {w:World} {v1 v2 v3:Value} {l1 l2 l3:List Int} (h:T3 B w v1 v2 v3 l1 l2 l3) (hl:l2.length≤1000000000):Rg.Ints w v2 l2:=Rg.Ints.of_row h.o2 hl
theorem T3.ints3 {B:Nat} {w:World} {v1 v2 v3:Value} {l1 l2 l3:List Int} (h:T3 B w v1 v2 v3 l1 l2 l3) (hl:l3.length≤1000000000):Rg.Ints w v3 l3:=Rg.Ints.of_row h.o3 hl
theorem tree_pts (T:List En) (x:Nat) (y:Int) (g:Nat) (u:List Nat):Ma.ofN (pts (T++[(x,y,g,u)]))=Ma.ofN (pts T)++[(x:Int)]:=by simp [pts,Ma.ofN]
theorem tree_prs (T:List En) (x:Nat) (y:Int) (g:Nat) (u:List Nat):prs (T++[(x,y,g,u)])=prs T++[y]:=by simp [prs]
theorem tree_gns (T:List En) (x:Nat) (y:Int) (g:Nat) (u:List Nat):gns (T++[(x,y,g,u)])=gns T++[(g:Int)]:=by simp [gns]
theorem results4 {fn:Func} {a b c d:Go.Tmp} (h:fn.results=#[.tmp a,.tmp b,.tmp c,.tmp d]) (tmps:Array Value) {va vb vc vd:Value} (ha:tmps.getD a undef=va) (hb:tmps.getD b undef=vb) (hc:tmps.getD c undef=vc) (hd:tmps.getD d undef=vd) (w:World) :
  (results fn tmps).run Tryz.prog w=.ok (.tuple #[va,vb,vc,vd]) w:=by
 subst ha hb hc hd;simp [results,h]
theorem refTree_in (gv:Value) (D:Nat) (gs:List (List Nat)) (p:Nat) (w:World) (h:Rg.NRows w gv gs) (hg:GG D gs) (h2:D≤64) (hp:p<D) (hgl:gs.length≤16) (hpt:∀ W v,Rg.Rows W v (gs.map Ma.ofN)→Calls Tryz.prog 307 #[.agg #[.int .i64 D,v],.int .i64 p] W fun e w'=>e=.returned (.int .i64 0)∧Below W.heap.size W w') :
  Calls Tryz.prog 255 #[.agg #[.int .i64 D,gv],.int .i64 p] w (TrPost (Ma.ofN (pts (tree gs D p)),prs (tree gs D p),gns (tree gs D p)) 0 w):=by
 have hv:=h;obtain ⟨ga,gc,rfl,_,_,_,hgr⟩:=h.shape;have HG:=ι hgr;have HGG:=ι hg;have HPT:=ι hpt;have hba:Below w.heap.size w (w.alloc (.cells #[.int .i64 D,.slice ga gs.length gc] 24)):=(Below.refl _ _).alloc (Nat.le_refl _) _
 have hsz:(w.alloc (.cells #[.int .i64 D,.slice ga gs.length gc] 24)).heap.size=w.heap.size+1:=by simp
 have hc0:(w.alloc (.cells #[.int .i64 D,.slice ga gs.length gc] 24)).cell? ⟨w.heap.size,0,none⟩=some (.int .i64 D):=by rw [Rg.cellNew]; rfl
 have hc1:(w.alloc (.cells #[.int .i64 D,.slice ga gs.length gc] 24)).cell? ⟨w.heap.size,1,none⟩=some (.slice ga gs.length gc):=by rw [Rg.cellNew]; rfl
 have R:=ι (Rg.NRows.below hv hba);have Hba:=ι hba
 have hlt:w.heap.size<(w.alloc (.cells #[.int .i64 D,.slice ga gs.length gc] 24)).heap.size:=by simp
 clear h hv hgr hg hpt hba
 go_enter Tryz.func255,Tryz.ntmps255
 go_upto_region 4 with (go_at_call 307; refine (HPT.out _ _ R.out).mono ?_; rintro e w1 ⟨rfl,hb1⟩; replace hc1:=(hb1.cell (p:=⟨w.heap.size,1,none⟩) hlt).trans hc1; have hs1:=hb1.size; replace Hba:=ι (Rg.acc Hba.out hb1); clear hb1 hc0 HPT R)
 replace hlt:=Nat.lt_of_lt_of_le hlt hs1;clear hs1 hsz;generalize hB:w1.heap.size=B at *;refine wp_region_list ?_;refine Rg.lm 18 (.int .i64 (p:Int)) ?_;go_frame
 have e1:(w1.alloc (.cells #[.int .i64 (p:Int)] 3)).heap.size=B+1:=by simp [hB]
 have e2:((w1.alloc (.cells #[.int .i64 (p:Int)] 3)).alloc (.cells #[.int .i64 (-1)] 3)).heap.size=B+2:=by simp [hB]
 refine Rg.lr 19 (Rg.exec_buildSlice _ _ _ rfl _ rfl (run_build1i w1 (p:Int))) ?_;go_frame;refine Rg.lr 20 (Rg.exec_buildSlice _ _ _ rfl _ rfl (run_build1i _ (-1))) ?_;go_frame;refine Rg.lr 21 (Rg.exec_buildSlice _ _ _ rfl _ rfl (run_build1i _ 0)) ?_;go_frame;rw [hB,e1,e2];refine Rg.la 4 (.slice (some ⟨B,0,none⟩) 1 1) ?_;go_frame;refine Rg.la 5 (.slice (some ⟨B+1,0,none⟩) 1 1) ?_;go_frame;refine Rg.la 6 (.slice (some ⟨B+2,0,none⟩) 1 1) ?_;go_frame;have b1:Below B w1 (w1.alloc (.cells #[.int .i64 (p:Int)] 3)):=(Below.refl _ _).alloc (by omega) _;have b2:=b1.alloc (by omega) (.cells #[.int .i64 (-1)] 3);have b3:=b2.alloc (by omega) (.cells #[.int .i64 0] 3);have o1:=own_one w1 B 3 (.int .i64 (p:Int)) (by omega);rw [hB] at o1;have o2:=own_one (w1.alloc (.cells #[.int .i64 (p:Int)] 3)) B 3 (.int .i64 (-1)) (by omega);rw [e1] at o2;have o3:=own_one ((w1.alloc (.cells #[.int .i64 (p:Int)] 3)).alloc (.cells #[.int .i64 (-1)] 3)) B 3 (.int .i64 0) (by omega)
 rw [e2] at o3
 have hT3:T3 B (((w1.alloc (.cells #[.int .i64 (p:Int)] 3)).alloc (.cells #[.int .i64 (-1)] 3)).alloc (.cells #[.int .i64 0] 3)) (.slice (some ⟨B,0,none⟩) 1 1) (.slice (some ⟨B+1,0,none⟩) 1 1) (.slice (some ⟨B+2,0,none⟩) 1 1) (Ma.ofN (pts [(p,-1,0,[])])) (prs [(p,-1,0,[])]) (gns [(p,-1,0,[])]) :=
  ⟨Rg.row_below (Rg.row_below o1 ((Below.refl _ _).alloc (Nat.le_refl _) _)) ((Below.refl _ _).alloc (Nat.le_refl _) _),Rg.row_below o2 ((Below.refl _ _).alloc (Nat.le_refl _) _),o3,fun b h=>by simp [Value.ownBlock] at h ⊢; omega,fun b h=>by simp [Value.ownBlock] at h ⊢; omega,fun b h=>by simp [Value.ownBlock] at h ⊢; omega⟩
 clear o1 o2 o3 b1 b2 e1 e2;generalize ((w1.alloc (.cells #[.int .i64 (p:Int)] 3)).alloc (.cells #[.int .i64 (-1)] 3)).alloc (.cells #[.int .i64 0] 3)=W3 at *;have HT3:=ι hT3;have HB3:=ι b3;have HBB:=ι hB;have G1:=ι ((b3.cell (p:=⟨w.heap.size,1,none⟩) hlt).trans hc1);clear hT3 b3 hB hc1
 have hgl':(gs.length:Int)≤16:=by omega
 go_wp2
 go_loopw [4,5,6,9] (fun v1 v2 v3 i wr=>∃ k:Nat,k≤(trI gs p k).length∧i=.int .i64 k∧Hid (T3 B wr v1 v2 v3 (Ma.ofN (pts (trI gs p k))) (prs (trI gs p k)) (gns (trI gs p k)))∧Hid (Below B W3 wr)) (fun _ _ _ i _=>D - (intOf i).toNat)
 case atStart=>exact ⟨0,by omega,rfl,HT3,ι (Below.refl _ _)⟩
 case round =>
  clear HT3;obtain ⟨k,hkl,rfl,hs,hbel⟩:=hrel;have hok:=trI_ok (p:=p) HGG.out.cl hp k;have hTD:=hok.len
  have hln:(Ma.ofN (pts (trI gs p k))).length=(trI gs p k).length:=by rw [Ma.len_ofN,len_pts]
  obtain ⟨pa,pc,hpe⟩:=Rg.row_shape hs.out.o1;rw [hln] at hpe;subst hpe
  by_cases hlk:k<(trI gs p k).length
  ·obtain ⟨e,he⟩:∃ e,Hid (e=(trI gs p k)[k]):=⟨_,ι rfl⟩
   have hkT:(k:Int)<((trI gs p k).length:Int):=by omega
   have heD:e.1<D:=hok.lt _ (List.mem_map.2 ⟨_,by rw [he.out]; exact List.getElem_mem hlk,rfl⟩);have hst:=ι (trI_some hlk);have HOK:=ι hok;clear hok hln;go_wp2
   go_loopw [4,5,6,10] (fun v1 v2 v3 i wr=>∃ s:Nat,s≤gs.length∧i=.int .i64 s∧Hid (T3 B wr v1 v2 v3 (Ma.ofN (pts (innG gs e (trI gs p k) s))) (prs (innG gs e (trI gs p k) s)) (gns (innG gs e (trI gs p k) s)))∧Hid (Below B W3 wr)) (fun _ _ _ i _=>gs.length - (intOf i).toNat)
   case atStart=>exact ⟨0,by omega,rfl,hs,hbel⟩
   case round =>
    clear hs hbel;obtain ⟨s,hsn,rfl,hs,hbel⟩:=hrel;have g1:=(hbel.out.cell (p:=⟨w.heap.size,1,none⟩) hlt).trans G1.out
    by_cases hls:s<gs.length
    ·have hkT0:k<(trI gs p k).length:=hlk
     have hokI:Ok D gs.length p (innG gs e (trI gs p k) s):=by
      rw [he.out];exact HOK.out.inn hkT0 (fun s hs=>HGG.out.cl s hs _ (HOK.out.lt _ (List.mem_map.2 ⟨_,List.getElem_mem hkT0,rfl⟩))) s (by omega)
     have hTD2:=hokI.len;obtain ⟨hi2,hge⟩:=innG_get (gs:=gs) (e:=e) (n:=s) hkT0;rw [← he.out] at hge
     have hL1:(Ma.ofN (pts (innG gs e (trI gs p k) s))).length=(innG gs e (trI gs p k) s).length:=by rw [Ma.len_ofN,len_pts]
     have hL2:(prs (innG gs e (trI gs p k) s)).length=(innG gs e (trI gs p k) s).length:=by simp [prs]
     have hL3:(gns (innG gs e (trI gs p k) s)).length=(innG gs e (trI gs p k) s).length:=by simp [gns]
     have hL1k:(ivz (Ma.ofN (pts (innG gs e (trI gs p k) s))))[k]?=some (.int .i64 ((e.1:Nat):Int)):=by
      have hh:(innG gs e (trI gs p k) s)[k]?=some e:=by rw [List.getElem?_eq_getElem hi2,hge]
      simp only [ivz,Ma.ofN,pts,List.getElem?_map,hh];rfl
     obtain ⟨N,hN⟩:∃ N,Hid (N=(innG gs e (trI gs p k) s).length):=⟨_,ι rfl⟩
     have hkN:k<N:=by rw [hN.out]; exact hi2
     have hND:N≤D:=by rw [hN.out]; exact hTD2
     obtain ⟨L1,HL1⟩:∃ L,Hid (L=Ma.ofN (pts (innG gs e (trI gs p k) s))):=⟨_,ι rfl⟩;obtain ⟨L2,HL2⟩:∃ L,Hid (L=prs (innG gs e (trI gs p k) s)):=⟨_,ι rfl⟩;obtain ⟨L3,HL3⟩:∃ L,Hid (L=gns (innG gs e (trI gs p k) s)):=⟨_,ι rfl⟩;rw [← HL1.out] at hL1k hL1;rw [← HL2.out] at hL2;rw [← HL3.out] at hL3;rw [← hN.out] at hL1 hL2 hL3;have ht:=hs.out;rw [← HL1.out,← HL2.out,← HL3.out] at ht;have ho1:=ht.o1;rw [hL1] at ho1;have ho2:=ht.o2;rw [hL2] at ho2;have ho3:=ht.o3;rw [hL3] at ho3;obtain ⟨a2,c2,hu5⟩:=Rg.row_shape ho2;obtain ⟨a3,c3,hu6⟩:=Rg.row_shape ho3
     rcases own_cases ho1 with ⟨_,h0⟩ | ⟨q1,c1,F,hu4,_⟩
     ·omega
     subst hu4 hu5 hu6;have d4:=(World.ownsRow.cellAt ho1 k (by omega)).trans hL1k;have hi1:Rg.Ints wr (.slice (some ⟨q1,0,none⟩) N c1) L1:=Rg.Ints.of_row ho1 (by omega);obtain ⟨bg,og,rfl,hbg,hgcell⟩:=HG.out (by omega);obtain ⟨u,hu,hun⟩:=hgcell s hls;obtain ⟨ua,uc,rfl,_,_,_,hucell⟩:=hun.shape;have hgs:=HGG.out _ (List.getElem_mem hls);obtain ⟨bu,ou,rfl,hbu,huc⟩:=hucell (by omega);have hq:=huc e.1 (by omega);obtain ⟨x,hxi⟩:∃ x,img gs s e.1=x:=⟨_,rfl⟩;rw [show gs[s][e.1]'(by omega)=x from (img_get hls (by omega)).symm.trans hxi] at hq
     have hxD:x<D:=by rw [← hxi]; exact HGG.out.cl s hls _ heD
     have hW:Below w.heap.size w wr:=Hba.out.trans ((HB3.out.trans hbel.out).mono (by omega));have d1:=(hW.cell (p:=⟨bg,og+s,none⟩) hbg).trans hu;have d2:=(hW.cell (p:=⟨bu,ou+e.1,none⟩) hbu).trans hq;have hlu:gs[s].length=D:=hgs.2;rw [hlu] at d1
     have i1:((e.1:Nat):Int)<(D:Int):=by omega
     have i2:(s:Int)<(gs.length:Int):=by omega
     have i4:(k:Int)<(N:Int):=by omega
     have hmm:decide ((x:Int)∈L1)=decide (x∈pts (innG gs e (trI gs p k) s)):=by rw [HL1.out]; exact decide_eq_decide.2 (mem_ofN _ _)
     have HT:=ι ht;have HI1:=ι hi1;have HXI:=ι hxi;have HOI:=ι hokI;have D4:=ι d4;have HL1L:=ι hL1;have HL2L:=ι hL2;have HL3L:=ι hL3;clear hs ht hokI hgcell hu hun hucell hgs huc hq hxi hW hlu ho1 ho2 ho3 hi1 hL1k hge hL1 hL2 hL3
     by_cases hmem:x∈pts (innG gs e (trI gs p k) s)
     ·rw [decide_eq_true hmem] at hmm
      have HM:=ι hmem;have HMM:=ι hmm;clear hmem hmm;go_upto_region 11 with (fail)
      go_quiet (fail)
      have hq1:=Rg.drewN (Below.refl wr.heap.size wr) nq;have HT1:=ι (HT.out.below hq1);have HI:=ι (Rg.Ints.below HI1.out hq1);have HB1:=ι (Rg.drewN hbel.out nq);have hq1w:q1<wr.heap.size:=(HT.out.o1.lt q1 rfl).2;have D5:=ι ((hq1.cell (p:=⟨q1,k,none⟩) hq1w).trans D4.out);clear d1 d2 d4 hq1 hq1w;generalize wr.drewN nq=wq at *
      go_wp2_with (go_at_call 308; refine (Has_any _ L1 (x:Int) wq HI.out).mono ?_; rw [HMM.out]; rintro e0 w2 ⟨rfl,hb2⟩; have HT2:=ι (HT1.out.below hb2); have HB2:=ι (HB1.out.trans (hb2.mono (by have:=HB1.out.size; have:=HB3.out.size; have:=HBB.out; omega))); have D6:=ι ((hb2.cell (p:=⟨q1,k,none⟩) (HT1.out.o1.lt q1 rfl).2).trans D5.out); clear hb2)
      go_roundw
      case rel=>exact ⟨s+1,by omega,by go_num,ι (by rw [innG_succ,putG_in (by rw [HXI.out]; exact HM.out),← HL1.out,← HL2.out,← HL3.out]; exact HT2.out),HB2⟩
      case measure=>simp [intOf]; omega
     ·rw [decide_eq_false hmem] at hmm
      have HM:=ι hmem;have HMM:=ι hmm;clear hmem hmm;go_upto_region 11 with (fail)
      go_quiet (fail)
      have hq1:=Rg.drewN (Below.refl wr.heap.size wr) nq;have HT1:=ι (HT.out.below hq1);have HI:=ι (Rg.Ints.below HI1.out hq1);have HB1:=ι (Rg.drewN hbel.out nq);have hq1w:q1<wr.heap.size:=(HT.out.o1.lt q1 rfl).2;have D5:=ι ((hq1.cell (p:=⟨q1,k,none⟩) hq1w).trans D4.out);clear d1 d2 d4 hq1 hq1w;generalize wr.drewN nq=wq at *
      go_upto_region 13 with (go_at_call 308; refine (Has_any _ L1 (x:Int) wq HI.out).mono ?_; rw [HMM.out]; rintro e0 w2 ⟨rfl,hb2⟩; have HT2:=ι (HT1.out.below hb2); have HB2:=ι (HB1.out.trans (hb2.mono (by have:=HB1.out.size; have:=HB3.out.size; have:=HBB.out; omega))); have D6:=ι ((hb2.cell (p:=⟨q1,k,none⟩) (HT1.out.o1.lt q1 rfl).2).trans D5.out); clear hb2)
      have HTT:=HT2;clear HT1 HB1 D5 HI HMM;have HT3:=ι (show T3 B w2.drew (.slice (some ⟨q1,0,none⟩) N c1) (.slice a2 N c2) (.slice a3 N c3) L1 L2 L3 from HT2.out.below (Below.refl _ _).drew);have K:=ι (show Below B W3 w2.drew from HB2.out.drew);have C:=ι (show w2.drew.cell? ⟨q1,k,none⟩=some (.int .i64 ((e.1:Nat):Int)) from D6.out)
      have hkL:k<L1.length:=by have:=HL1L.out; omega
      have hBw:B≤W3.heap.size:=by have:=HB3.out.size; have:=HBB.out; omega
      clear HT2 HB2 D6 HTT HT;refine Rg.Any.begin (S:=Rg.Both 9 (fun W=>W.cell? ⟨q1,k,none⟩=some (.int .i64 ((e.1:Nat):Int))) (fun _=>True)) mix ?_;generalize w2.drew=V at *;have hS:∀ (l:Array Bool) (W:World),W.cell? ⟨q1,k,none⟩=some (.int .i64 ((e.1:Nat):Int))→Rg.Both 9 (fun W=>W.cell? ⟨q1,k,none⟩=some (.int .i64 ((e.1:Nat):Int))) (fun _=>True) l W:=fun l W h=>⟨.inr h,trivial⟩;refine Rg.tg 0 9 (.slice (some ⟨q1,0,none⟩) N c1) 50 rfl rfl (.inl ⟨rfl,fun w _=>rfl⟩) (hS _ _ C.out) ?_;go_frame;refine Rg.tg 1 9 (.int .i64 (x:Int)) 51 rfl rfl (.inl ⟨rfl,fun w _=>rfl⟩) (hS _ _ C.out) ?_;go_frame;refine Rg.tg 4 9 (.slice a2 N c2) 54 rfl rfl (.inl ⟨rfl,fun w _=>rfl⟩) (hS _ _ C.out) ?_;go_frame;refine Rg.tg 5 9 (.slice (some ⟨q1,0,none⟩) N c1) 55 rfl rfl (.inl ⟨rfl,fun w _=>rfl⟩) (hS _ _ C.out) ?_;go_frame;refine Rg.tg 6 9 (.int .i64 (k:Int)) 56 rfl rfl (.inl ⟨rfl,fun w _=>rfl⟩) (hS _ _ C.out) ?_;go_frame
      refine Rg.tg 7 9 (.pointer (some ⟨q1,0+k,none⟩)) 57 rfl rfl (Rg.yields_index slInts _ _ rfl rfl q1 0 N c1 k rfl rfl hkN) (hS _ _ C.out) ?_;go_frame;refine Rg.Any.takeT (i:=8) (t:=9) (v:=.int .i64 ((e.1:Nat):Int)) (some 58) rfl rfl (by kernel_rfl) (by kernel_rfl) (by kernel_rfl) (fun _ _ _ h=>h) rfl (by kernel_rfl) rfl (Rg.yields_cell _ _ rfl rfl ⟨q1,0+k,none⟩ rfl (fun W hW=>run_loadInt (by rw [Nat.zero_add]; exact hW))) (hS _ _ C.out) ?_;go_frame;refine Rg.tg 11 9 (.slice a3 N c3) 61 rfl rfl (.inl ⟨rfl,fun w _=>rfl⟩) (hS _ _ C.out) ?_;go_frame;refine Rg.tg 12 9 (.int .i64 (s:Int)) 62 rfl rfl (.inl ⟨rfl,fun w _=>rfl⟩) (hS _ _ C.out) ?_;go_frame;refine Rg.tg 13 9 (.int .i64 ((s+1:Nat):Int)) 63 rfl rfl (.inl ⟨rfl,fun w _=>exec_bin .add _ _ _ rfl rfl rfl (b_add _ (by omega) (by omega))⟩) (hS _ _ C.out) ?_;go_frame;refine Rg.Any.all (rs:=[2,9,14]) (by kernel_rfl) (by simp) fun mm hmm=>?_
      simp only [List.mem_cons,List.not_mem_nil,or_false] at hmm
      rcases hmm with rfl | rfl | rfl
      ·obtain ⟨t1,p1,hb1⟩:=HT3.out.bld (x:Int)
       have C1:=ι ((hb1.cell (p:=⟨q1,k,none⟩) (lt_of_cell C.out)).trans C.out);have hK1:=ι (K.out.trans (hb1.mono (by have:=K.out.size; omega)));refine Rg.Any.run (some 52) rfl rfl rfl (Rg.exec_buildSlice _ _ _ rfl _ rfl (run_build1i V (x:Int))) (hS _ _ C1.out) ?_;go_frame;have HT3:=ι t1;have P1:=ι p1;have K:=hK1;have C:=C1;clear t1 p1 hb1 hK1 C1;generalize V.alloc (.cells #[.int .i64 (x:Int)] 3)=X1 at *;generalize V.heap.size=z11 at *;refine Rg.Any.all (rs:=[3,9,14]) (by kernel_rfl) (by simp) fun mm hmm=>?_;simp only [List.mem_cons,List.not_mem_nil,or_false] at hmm
       rcases hmm with rfl | rfl | rfl
       ·obtain ⟨aa2,cc2,W2,r2,t2,sz2,kp2,od2,bl2⟩:=HT3.out.app1 (by have:=K.out.size; omega) P1.out (by have:=HL1L.out; omega) 36
        rw [HL1L.out] at r2 t2 kp2 od2;have C2:=ι ((od2 q1 rfl k (by omega)).trans C.out);have hK2:=ι (bl2 (Nat.le_refl _) K.out);refine Rg.Any.run (some 53) rfl rfl rfl (Rg.exec_append _ _ _ rfl rfl rfl r2) (hS _ _ C2.out) ?_;go_frame;have HT3:=ι t2;have K:=hK2;have C:=C2;clear r2 t2 sz2 bl2 hK2 kp2 od2 C2;refine Rg.Any.all (rs:=[9,14]) (by kernel_rfl) (by simp) fun mm hmm=>?_;simp only [List.mem_cons,List.not_mem_nil,or_false] at hmm
        rcases hmm with rfl | rfl
        ·obtain ⟨t3,p3,hb3⟩:=HT3.out.bld ((e.1:Nat):Int)
         have C3:=ι ((hb3.cell (p:=⟨q1,k,none⟩) (lt_of_cell C.out)).trans C.out);have hK3:=ι (K.out.trans (hb3.mono (by have:=K.out.size; omega)));refine Rg.Any.run (some 59) rfl rfl rfl (Rg.exec_buildSlice _ _ _ rfl _ rfl (run_build1i W2 ((e.1:Nat):Int))) (hS _ _ C3.out) ?_;go_frame;have HT3:=ι t3;have P2:=ι p3;have K:=hK3;have C:=C3;clear t3 p3 hb3 hK3 C3;generalize W2.alloc (.cells #[.int .i64 ((e.1:Nat):Int)] 3)=X3 at *;generalize W2.heap.size=z23 at *;refine Rg.Any.all (rs:=[10,14]) (by kernel_rfl) (by simp) fun mm hmm=>?_;simp only [List.mem_cons,List.not_mem_nil,or_false] at hmm
         rcases hmm with rfl | rfl
         ·obtain ⟨aa4,cc4,W4,r4,t4,sz4,kp4,bl4⟩:=HT3.out.app2 (by have:=K.out.size; omega) P2.out (by have:=HL2L.out; omega) 36
          rw [HL2L.out] at r4 t4 kp4;have hK4:=ι (bl4 (Nat.le_refl _) K.out);refine Rg.Any.run (some 60) rfl rfl rfl (Rg.exec_append _ _ _ rfl rfl rfl r4) ⟨.inl rfl,trivial⟩ ?_;go_frame;have HT3:=ι t4;have K:=hK4;clear r4 t4 sz4 bl4 hK4 kp4;refine Rg.Any.one (i:=14) (by kernel_rfl) ?_;obtain ⟨t5,p5,hb5⟩:=HT3.out.bld ((s+1:Nat):Int);have hK5:=ι (K.out.trans (hb5.mono (by have:=K.out.size; omega)));refine Rg.Any.run (some 64) rfl rfl rfl (Rg.exec_buildSlice _ _ _ rfl _ rfl (run_build1i W4 ((s+1:Nat):Int))) ⟨.inl rfl,trivial⟩ ?_;go_frame;have HT3:=ι t5;have P3:=ι p5;have K:=hK5;clear t5 p5 hb5 hK5;generalize W4.alloc (.cells #[.int .i64 ((s+1:Nat):Int)] 3)=X5 at *;generalize W4.heap.size=z35 at *;refine Rg.Any.one (i:=15) (by kernel_rfl) ?_;obtain ⟨aa6,cc6,W6,r6,t6,sz6,bl6⟩:=HT3.out.app3 (by have:=K.out.size; omega) P3.out (by have:=HL3L.out; omega) 36
          rw [HL3L.out] at r6 t6;have hK6:=ι (bl6 (Nat.le_refl _) K.out);refine Rg.Any.run (some 65) rfl rfl rfl (Rg.exec_append _ _ _ rfl rfl rfl r6) ⟨.inl rfl,trivial⟩ ?_;go_frame;have HT3:=ι t6;have K:=hK6;clear r6 t6 sz6 bl6 hK6;refine Rg.Any.one (i:=16) (by kernel_rfl) (Rg.Any.run (some 4) rfl rfl rfl (Rg.xa (.slice aa2 (N+1) cc2) _ rfl rfl) ⟨.inl rfl,trivial⟩ ?_);go_frame;refine Rg.Any.one (i:=17) (by kernel_rfl) (Rg.Any.run (some 5) rfl rfl rfl (Rg.xa (.slice aa4 (N+1) cc4) _ rfl rfl) ⟨.inl rfl,trivial⟩ ?_);go_frame;refine Rg.Any.one (i:=18) (by kernel_rfl) (Rg.Any.run (some 6) rfl rfl rfl (Rg.xa (.slice aa6 (N+1) cc6) _ rfl rfl) ⟨.inl rfl,trivial⟩ ?_);go_frame;refine Rg.Any.done (by kernel_rfl) ?_ _;clear hS;go_wp2
          go_roundw
          case rel =>
           refine ⟨s+1,by omega,by go_num,ι ?_,K⟩;rw [innG_succ,putG_out (by rw [HXI.out]; exact HM.out),HXI.out];have hfin:=HT3.out;rw [HL1.out,HL2.out,HL3.out] at hfin;rw [tree_pts,tree_prs,tree_gns];exact hfin
          case measure=>simp [intOf]; omega
         ·obtain ⟨t7,p7,hb7⟩:=HT3.out.bld ((s+1:Nat):Int)
          have hK7:=ι (K.out.trans (hb7.mono (by have:=K.out.size; omega)));have P2:=ι (P2.out.below hb7);refine Rg.Any.run (some 64) rfl rfl rfl (Rg.exec_buildSlice _ _ _ rfl _ rfl (run_build1i X3 ((s+1:Nat):Int))) ⟨.inl rfl,trivial⟩ ?_;go_frame;have HT3:=ι t7;have P3:=ι p7;have K:=hK7;clear t7 p7 hb7 hK7;generalize X3.alloc (.cells #[.int .i64 ((s+1:Nat):Int)] 3)=X7 at *;generalize X3.heap.size=z37 at *;refine Rg.Any.one (i:=10) (by kernel_rfl) ?_;obtain ⟨aa8,cc8,W8,r8,t8,sz8,kp8,bl8⟩:=HT3.out.app2 (by have:=K.out.size; omega) P2.out (by have:=HL2L.out; omega) 36;rw [HL2L.out] at r8 t8 kp8;have P3:=ι (kp8 _ _ P3.out);have hK8:=ι (bl8 (Nat.le_refl _) K.out);refine Rg.Any.run (some 60) rfl rfl rfl (Rg.exec_append _ _ _ rfl rfl rfl r8) ⟨.inl rfl,trivial⟩ ?_;go_frame;have HT3:=ι t8;have K:=hK8;clear r8 t8 sz8 bl8 hK8 kp8;refine Rg.Any.one (i:=15) (by kernel_rfl) ?_
          obtain ⟨aa9,cc9,W9,r9,t9,sz9,bl9⟩:=HT3.out.app3 (by have:=K.out.size; omega) P3.out (by have:=HL3L.out; omega) 36;rw [HL3L.out] at r9 t9;have hK9:=ι (bl9 (Nat.le_refl _) K.out);refine Rg.Any.run (some 65) rfl rfl rfl (Rg.exec_append _ _ _ rfl rfl rfl r9) ⟨.inl rfl,trivial⟩ ?_;go_frame;have HT3:=ι t9;have K:=hK9;clear r9 t9 sz9 bl9 hK9;refine Rg.Any.one (i:=16) (by kernel_rfl) (Rg.Any.run (some 4) rfl rfl rfl (Rg.xa (.slice aa2 (N+1) cc2) _ rfl rfl) ⟨.inl rfl,trivial⟩ ?_);go_frame;refine Rg.Any.one (i:=17) (by kernel_rfl) (Rg.Any.run (some 5) rfl rfl rfl (Rg.xa (.slice aa8 (N+1) cc8) _ rfl rfl) ⟨.inl rfl,trivial⟩ ?_);go_frame;refine Rg.Any.one (i:=18) (by kernel_rfl) (Rg.Any.run (some 6) rfl rfl rfl (Rg.xa (.slice aa9 (N+1) cc9) _ rfl rfl) ⟨.inl rfl,trivial⟩ ?_);go_frame;refine Rg.Any.done (by kernel_rfl) ?_ _;clear hS;go_wp2
          go_roundw
          case rel =>
           refine ⟨s+1,by omega,by go_num,ι ?_,K⟩;rw [innG_succ,putG_out (by rw [HXI.out]; exact HM.out),HXI.out];have hfin:=HT3.out;rw [HL1.out,HL2.out,HL3.out] at hfin;rw [tree_pts,tree_prs,tree_gns];exact hfin
          case measure=>simp [intOf]; omega
        ·obtain ⟨t10,p10,hb10⟩:=HT3.out.bld ((s+1:Nat):Int)
         have C10:=ι ((hb10.cell (p:=⟨q1,k,none⟩) (lt_of_cell C.out)).trans C.out);have hK10:=ι (K.out.trans (hb10.mono (by have:=K.out.size; omega)));refine Rg.Any.run (some 64) rfl rfl rfl (Rg.exec_buildSlice _ _ _ rfl _ rfl (run_build1i W2 ((s+1:Nat):Int))) (hS _ _ C10.out) ?_;go_frame;have HT3:=ι t10;have P3:=ι p10;have K:=hK10;have C:=C10;clear t10 p10 hb10 hK10 C10;generalize W2.alloc (.cells #[.int .i64 ((s+1:Nat):Int)] 3)=X10 at *;generalize W2.heap.size=z310 at *;refine Rg.Any.one (i:=9) (by kernel_rfl) ?_;obtain ⟨t11,p11,hb11⟩:=HT3.out.bld ((e.1:Nat):Int);have C11:=ι ((hb11.cell (p:=⟨q1,k,none⟩) (lt_of_cell C.out)).trans C.out);have hK11:=ι (K.out.trans (hb11.mono (by have:=K.out.size; omega)));have P3:=ι (P3.out.below hb11);refine Rg.Any.run (some 59) rfl rfl rfl (Rg.exec_buildSlice _ _ _ rfl _ rfl (run_build1i X10 ((e.1:Nat):Int))) (hS _ _ C11.out) ?_;go_frame
         have HT3:=ι t11;have P2:=ι p11;have K:=hK11;have C:=C11;clear t11 p11 hb11 hK11 C11;generalize X10.alloc (.cells #[.int .i64 ((e.1:Nat):Int)] 3)=X11 at *;generalize X10.heap.size=z211 at *;refine Rg.Any.one (i:=10) (by kernel_rfl) ?_;obtain ⟨aa12,cc12,W12,r12,t12,sz12,kp12,bl12⟩:=HT3.out.app2 (by have:=K.out.size; omega) P2.out (by have:=HL2L.out; omega) 36;rw [HL2L.out] at r12 t12 kp12;have P3:=ι (kp12 _ _ P3.out);have hK12:=ι (bl12 (Nat.le_refl _) K.out);refine Rg.Any.run (some 60) rfl rfl rfl (Rg.exec_append _ _ _ rfl rfl rfl r12) ⟨.inl rfl,trivial⟩ ?_;go_frame;have HT3:=ι t12;have K:=hK12;clear r12 t12 sz12 bl12 hK12 kp12;refine Rg.Any.one (i:=15) (by kernel_rfl) ?_;obtain ⟨aa13,cc13,W13,r13,t13,sz13,bl13⟩:=HT3.out.app3 (by have:=K.out.size; omega) P3.out (by have:=HL3L.out; omega) 36;rw [HL3L.out] at r13 t13;have hK13:=ι (bl13 (Nat.le_refl _) K.out)
         refine Rg.Any.run (some 65) rfl rfl rfl (Rg.exec_append _ _ _ rfl rfl rfl r13) ⟨.inl rfl,trivial⟩ ?_;go_frame;have HT3:=ι t13;have K:=hK13;clear r13 t13 sz13 bl13 hK13;refine Rg.Any.one (i:=16) (by kernel_rfl) (Rg.Any.run (some 4) rfl rfl rfl (Rg.xa (.slice aa2 (N+1) cc2) _ rfl rfl) ⟨.inl rfl,trivial⟩ ?_);go_frame;refine Rg.Any.one (i:=17) (by kernel_rfl) (Rg.Any.run (some 5) rfl rfl rfl (Rg.xa (.slice aa12 (N+1) cc12) _ rfl rfl) ⟨.inl rfl,trivial⟩ ?_);go_frame;refine Rg.Any.one (i:=18) (by kernel_rfl) (Rg.Any.run (some 6) rfl rfl rfl (Rg.xa (.slice aa13 (N+1) cc13) _ rfl rfl) ⟨.inl rfl,trivial⟩ ?_);go_frame;refine Rg.Any.done (by kernel_rfl) ?_ _;clear hS;go_wp2
         go_roundw
         case rel =>
          refine ⟨s+1,by omega,by go_num,ι ?_,K⟩;rw [innG_succ,putG_out (by rw [HXI.out]; exact HM.out),HXI.out];have hfin:=HT3.out;rw [HL1.out,HL2.out,HL3.out] at hfin;rw [tree_pts,tree_prs,tree_gns];exact hfin
         case measure=>simp [intOf]; omega
       ·obtain ⟨t14,p14,hb14⟩:=HT3.out.bld ((e.1:Nat):Int)
        have C14:=ι ((hb14.cell (p:=⟨q1,k,none⟩) (lt_of_cell C.out)).trans C.out);have hK14:=ι (K.out.trans (hb14.mono (by have:=K.out.size; omega)));have P1:=ι (P1.out.below hb14);refine Rg.Any.run (some 59) rfl rfl rfl (Rg.exec_buildSlice _ _ _ rfl _ rfl (run_build1i X1 ((e.1:Nat):Int))) (hS _ _ C14.out) ?_;go_frame;have HT3:=ι t14;have P2:=ι p14;have K:=hK14;have C:=C14;clear t14 p14 hb14 hK14 C14;generalize X1.alloc (.cells #[.int .i64 ((e.1:Nat):Int)] 3)=X14 at *;generalize X1.heap.size=z214 at *;refine Rg.Any.all (rs:=[3,14]) (by kernel_rfl) (by simp) fun mm hmm=>?_;simp only [List.mem_cons,List.not_mem_nil,or_false] at hmm
        rcases hmm with rfl | rfl
        ·obtain ⟨aa15,cc15,W15,r15,t15,sz15,kp15,od15,bl15⟩:=HT3.out.app1 (by have:=K.out.size; omega) P1.out (by have:=HL1L.out; omega) 36
         rw [HL1L.out] at r15 t15 kp15 od15;have P2:=ι (kp15 _ _ P2.out);have hK15:=ι (bl15 (Nat.le_refl _) K.out);refine Rg.Any.run (some 53) rfl rfl rfl (Rg.exec_append _ _ _ rfl rfl rfl r15) ⟨.inl rfl,trivial⟩ ?_;go_frame;have HT3:=ι t15;have K:=hK15;clear r15 t15 sz15 bl15 hK15 kp15 od15;refine Rg.Any.all (rs:=[10,14]) (by kernel_rfl) (by simp) fun mm hmm=>?_;simp only [List.mem_cons,List.not_mem_nil,or_false] at hmm
         rcases hmm with rfl | rfl
         ·obtain ⟨aa16,cc16,W16,r16,t16,sz16,kp16,bl16⟩:=HT3.out.app2 (by have:=K.out.size; omega) P2.out (by have:=HL2L.out; omega) 36
          rw [HL2L.out] at r16 t16 kp16;have hK16:=ι (bl16 (Nat.le_refl _) K.out);refine Rg.Any.run (some 60) rfl rfl rfl (Rg.exec_append _ _ _ rfl rfl rfl r16) ⟨.inl rfl,trivial⟩ ?_;go_frame;have HT3:=ι t16;have K:=hK16;clear r16 t16 sz16 bl16 hK16 kp16;refine Rg.Any.one (i:=14) (by kernel_rfl) ?_;obtain ⟨t17,p17,hb17⟩:=HT3.out.bld ((s+1:Nat):Int);have hK17:=ι (K.out.trans (hb17.mono (by have:=K.out.size; omega)));refine Rg.Any.run (some 64) rfl rfl rfl (Rg.exec_buildSlice _ _ _ rfl _ rfl (run_build1i W16 ((s+1:Nat):Int))) ⟨.inl rfl,trivial⟩ ?_;go_frame;have HT3:=ι t17;have P3:=ι p17;have K:=hK17;clear t17 p17 hb17 hK17;generalize W16.alloc (.cells #[.int .i64 ((s+1:Nat):Int)] 3)=X17 at *;generalize W16.heap.size=z317 at *;refine Rg.Any.one (i:=15) (by kernel_rfl) ?_;obtain ⟨aa18,cc18,W18,r18,t18,sz18,bl18⟩:=HT3.out.app3 (by have:=K.out.size; omega) P3.out (by have:=HL3L.out; omega) 36
          rw [HL3L.out] at r18 t18;have hK18:=ι (bl18 (Nat.le_refl _) K.out);refine Rg.Any.run (some 65) rfl rfl rfl (Rg.exec_append _ _ _ rfl rfl rfl r18) ⟨.inl rfl,trivial⟩ ?_;go_frame;have HT3:=ι t18;have K:=hK18;clear r18 t18 sz18 bl18 hK18;refine Rg.Any.one (i:=16) (by kernel_rfl) (Rg.Any.run (some 4) rfl rfl rfl (Rg.xa (.slice aa15 (N+1) cc15) _ rfl rfl) ⟨.inl rfl,trivial⟩ ?_);go_frame;refine Rg.Any.one (i:=17) (by kernel_rfl) (Rg.Any.run (some 5) rfl rfl rfl (Rg.xa (.slice aa16 (N+1) cc16) _ rfl rfl) ⟨.inl rfl,trivial⟩ ?_);go_frame;refine Rg.Any.one (i:=18) (by kernel_rfl) (Rg.Any.run (some 6) rfl rfl rfl (Rg.xa (.slice aa18 (N+1) cc18) _ rfl rfl) ⟨.inl rfl,trivial⟩ ?_);go_frame;refine Rg.Any.done (by kernel_rfl) ?_ _;clear hS;go_wp2
          go_roundw
          case rel =>
           refine ⟨s+1,by omega,by go_num,ι ?_,K⟩;rw [innG_succ,putG_out (by rw [HXI.out]; exact HM.out),HXI.out];have hfin:=HT3.out;rw [HL1.out,HL2.out,HL3.out] at hfin;rw [tree_pts,tree_prs,tree_gns];exact hfin
          case measure=>simp [intOf]; omega
         ·obtain ⟨t19,p19,hb19⟩:=HT3.out.bld ((s+1:Nat):Int)
          have hK19:=ι (K.out.trans (hb19.mono (by have:=K.out.size; omega)));have P2:=ι (P2.out.below hb19);refine Rg.Any.run (some 64) rfl rfl rfl (Rg.exec_buildSlice _ _ _ rfl _ rfl (run_build1i W15 ((s+1:Nat):Int))) ⟨.inl rfl,trivial⟩ ?_;go_frame;have HT3:=ι t19;have P3:=ι p19;have K:=hK19;clear t19 p19 hb19 hK19;generalize W15.alloc (.cells #[.int .i64 ((s+1:Nat):Int)] 3)=X19 at *;generalize W15.heap.size=z319 at *;refine Rg.Any.one (i:=10) (by kernel_rfl) ?_;obtain ⟨aa20,cc20,W20,r20,t20,sz20,kp20,bl20⟩:=HT3.out.app2 (by have:=K.out.size; omega) P2.out (by have:=HL2L.out; omega) 36;rw [HL2L.out] at r20 t20 kp20;have P3:=ι (kp20 _ _ P3.out);have hK20:=ι (bl20 (Nat.le_refl _) K.out);refine Rg.Any.run (some 60) rfl rfl rfl (Rg.exec_append _ _ _ rfl rfl rfl r20) ⟨.inl rfl,trivial⟩ ?_;go_frame;have HT3:=ι t20;have K:=hK20;clear r20 t20 sz20 bl20 hK20 kp20
          refine Rg.Any.one (i:=15) (by kernel_rfl) ?_;obtain ⟨aa21,cc21,W21,r21,t21,sz21,bl21⟩:=HT3.out.app3 (by have:=K.out.size; omega) P3.out (by have:=HL3L.out; omega) 36;rw [HL3L.out] at r21 t21;have hK21:=ι (bl21 (Nat.le_refl _) K.out);refine Rg.Any.run (some 65) rfl rfl rfl (Rg.exec_append _ _ _ rfl rfl rfl r21) ⟨.inl rfl,trivial⟩ ?_;go_frame;have HT3:=ι t21;have K:=hK21;clear r21 t21 sz21 bl21 hK21;refine Rg.Any.one (i:=16) (by kernel_rfl) (Rg.Any.run (some 4) rfl rfl rfl (Rg.xa (.slice aa15 (N+1) cc15) _ rfl rfl) ⟨.inl rfl,trivial⟩ ?_);go_frame;refine Rg.Any.one (i:=17) (by kernel_rfl) (Rg.Any.run (some 5) rfl rfl rfl (Rg.xa (.slice aa20 (N+1) cc20) _ rfl rfl) ⟨.inl rfl,trivial⟩ ?_);go_frame;refine Rg.Any.one (i:=18) (by kernel_rfl) (Rg.Any.run (some 6) rfl rfl rfl (Rg.xa (.slice aa21 (N+1) cc21) _ rfl rfl) ⟨.inl rfl,trivial⟩ ?_);go_frame;refine Rg.Any.done (by kernel_rfl) ?_ _
          clear hS;go_wp2
          go_roundw
          case rel =>
           refine ⟨s+1,by omega,by go_num,ι ?_,K⟩;rw [innG_succ,putG_out (by rw [HXI.out]; exact HM.out),HXI.out];have hfin:=HT3.out;rw [HL1.out,HL2.out,HL3.out] at hfin;rw [tree_pts,tree_prs,tree_gns];exact hfin
          case measure=>simp [intOf]; omega
        ·obtain ⟨t22,p22,hb22⟩:=HT3.out.bld ((s+1:Nat):Int)
         have hK22:=ι (K.out.trans (hb22.mono (by have:=K.out.size; omega)));have P1:=ι (P1.out.below hb22);have P2:=ι (P2.out.below hb22);refine Rg.Any.run (some 64) rfl rfl rfl (Rg.exec_buildSlice _ _ _ rfl _ rfl (run_build1i X14 ((s+1:Nat):Int))) ⟨.inl rfl,trivial⟩ ?_;go_frame;have HT3:=ι t22;have P3:=ι p22;have K:=hK22;clear t22 p22 hb22 hK22;generalize X14.alloc (.cells #[.int .i64 ((s+1:Nat):Int)] 3)=X22 at *;generalize X14.heap.size=z322 at *;refine Rg.Any.one (i:=3) (by kernel_rfl) ?_;obtain ⟨aa23,cc23,W23,r23,t23,sz23,kp23,od23,bl23⟩:=HT3.out.app1 (by have:=K.out.size; omega) P1.out (by have:=HL1L.out; omega) 36;rw [HL1L.out] at r23 t23 kp23 od23;have P2:=ι (kp23 _ _ P2.out);have P3:=ι (kp23 _ _ P3.out);have hK23:=ι (bl23 (Nat.le_refl _) K.out);refine Rg.Any.run (some 53) rfl rfl rfl (Rg.exec_append _ _ _ rfl rfl rfl r23) ⟨.inl rfl,trivial⟩ ?_;go_frame
         have HT3:=ι t23;have K:=hK23;clear r23 t23 sz23 bl23 hK23 kp23 od23;refine Rg.Any.one (i:=10) (by kernel_rfl) ?_;obtain ⟨aa24,cc24,W24,r24,t24,sz24,kp24,bl24⟩:=HT3.out.app2 (by have:=K.out.size; omega) P2.out (by have:=HL2L.out; omega) 36;rw [HL2L.out] at r24 t24 kp24;have P3:=ι (kp24 _ _ P3.out);have hK24:=ι (bl24 (Nat.le_refl _) K.out);refine Rg.Any.run (some 60) rfl rfl rfl (Rg.exec_append _ _ _ rfl rfl rfl r24) ⟨.inl rfl,trivial⟩ ?_;go_frame;have HT3:=ι t24;have K:=hK24;clear r24 t24 sz24 bl24 hK24 kp24;refine Rg.Any.one (i:=15) (by kernel_rfl) ?_;obtain ⟨aa25,cc25,W25,r25,t25,sz25,bl25⟩:=HT3.out.app3 (by have:=K.out.size; omega) P3.out (by have:=HL3L.out; omega) 36;rw [HL3L.out] at r25 t25;have hK25:=ι (bl25 (Nat.le_refl _) K.out);refine Rg.Any.run (some 65) rfl rfl rfl (Rg.exec_append _ _ _ rfl rfl rfl r25) ⟨.inl rfl,trivial⟩ ?_;go_frame
         have HT3:=ι t25;have K:=hK25;clear r25 t25 sz25 bl25 hK25;refine Rg.Any.one (i:=16) (by kernel_rfl) (Rg.Any.run (some 4) rfl rfl rfl (Rg.xa (.slice aa23 (N+1) cc23) _ rfl rfl) ⟨.inl rfl,trivial⟩ ?_);go_frame;refine Rg.Any.one (i:=17) (by kernel_rfl) (Rg.Any.run (some 5) rfl rfl rfl (Rg.xa (.slice aa24 (N+1) cc24) _ rfl rfl) ⟨.inl rfl,trivial⟩ ?_);go_frame;refine Rg.Any.one (i:=18) (by kernel_rfl) (Rg.Any.run (some 6) rfl rfl rfl (Rg.xa (.slice aa25 (N+1) cc25) _ rfl rfl) ⟨.inl rfl,trivial⟩ ?_);go_frame;refine Rg.Any.done (by kernel_rfl) ?_ _;clear hS;go_wp2
         go_roundw
         case rel =>
          refine ⟨s+1,by omega,by go_num,ι ?_,K⟩;rw [innG_succ,putG_out (by rw [HXI.out]; exact HM.out),HXI.out];have hfin:=HT3.out;rw [HL1.out,HL2.out,HL3.out] at hfin;rw [tree_pts,tree_prs,tree_gns];exact hfin
         case measure=>simp [intOf]; omega
       ·obtain ⟨t26,p26,hb26⟩:=HT3.out.bld ((s+1:Nat):Int)
        have C26:=ι ((hb26.cell (p:=⟨q1,k,none⟩) (lt_of_cell C.out)).trans C.out);have hK26:=ι (K.out.trans (hb26.mono (by have:=K.out.size; omega)));have P1:=ι (P1.out.below hb26);refine Rg.Any.run (some 64) rfl rfl rfl (Rg.exec_buildSlice _ _ _ rfl _ rfl (run_build1i X1 ((s+1:Nat):Int))) (hS _ _ C26.out) ?_;go_frame;have HT3:=ι t26;have P3:=ι p26;have K:=hK26;have C:=C26;clear t26 p26 hb26 hK26 C26;generalize X1.alloc (.cells #[.int .i64 ((s+1:Nat):Int)] 3)=X26 at *;generalize X1.heap.size=z326 at *;refine Rg.Any.all (rs:=[3,9]) (by kernel_rfl) (by simp) fun mm hmm=>?_;simp only [List.mem_cons,List.not_mem_nil,or_false] at hmm
        rcases hmm with rfl | rfl
        ·obtain ⟨aa27,cc27,W27,r27,t27,sz27,kp27,od27,bl27⟩:=HT3.out.app1 (by have:=K.out.size; omega) P1.out (by have:=HL1L.out; omega) 36
         rw [HL1L.out] at r27 t27 kp27 od27;have C27:=ι ((od27 q1 rfl k (by omega)).trans C.out);have P3:=ι (kp27 _ _ P3.out);have hK27:=ι (bl27 (Nat.le_refl _) K.out);refine Rg.Any.run (some 53) rfl rfl rfl (Rg.exec_append _ _ _ rfl rfl rfl r27) (hS _ _ C27.out) ?_;go_frame;have HT3:=ι t27;have K:=hK27;have C:=C27;clear r27 t27 sz27 bl27 hK27 kp27 od27 C27;refine Rg.Any.one (i:=9) (by kernel_rfl) ?_;obtain ⟨t28,p28,hb28⟩:=HT3.out.bld ((e.1:Nat):Int);have C28:=ι ((hb28.cell (p:=⟨q1,k,none⟩) (lt_of_cell C.out)).trans C.out);have hK28:=ι (K.out.trans (hb28.mono (by have:=K.out.size; omega)));have P3:=ι (P3.out.below hb28);refine Rg.Any.run (some 59) rfl rfl rfl (Rg.exec_buildSlice _ _ _ rfl _ rfl (run_build1i W27 ((e.1:Nat):Int))) (hS _ _ C28.out) ?_;go_frame;have HT3:=ι t28;have P2:=ι p28;have K:=hK28;have C:=C28;clear t28 p28 hb28 hK28 C28;generalize W27.alloc (.cells #[.int .i64 ((e.1:Nat):Int)] 3)=X28 at *
         generalize W27.heap.size=z228 at *;refine Rg.Any.one (i:=10) (by kernel_rfl) ?_;obtain ⟨aa29,cc29,W29,r29,t29,sz29,kp29,bl29⟩:=HT3.out.app2 (by have:=K.out.size; omega) P2.out (by have:=HL2L.out; omega) 36;rw [HL2L.out] at r29 t29 kp29;have P3:=ι (kp29 _ _ P3.out);have hK29:=ι (bl29 (Nat.le_refl _) K.out);refine Rg.Any.run (some 60) rfl rfl rfl (Rg.exec_append _ _ _ rfl rfl rfl r29) ⟨.inl rfl,trivial⟩ ?_;go_frame;have HT3:=ι t29;have K:=hK29;clear r29 t29 sz29 bl29 hK29 kp29;refine Rg.Any.one (i:=15) (by kernel_rfl) ?_;obtain ⟨aa30,cc30,W30,r30,t30,sz30,bl30⟩:=HT3.out.app3 (by have:=K.out.size; omega) P3.out (by have:=HL3L.out; omega) 36;rw [HL3L.out] at r30 t30;have hK30:=ι (bl30 (Nat.le_refl _) K.out);refine Rg.Any.run (some 65) rfl rfl rfl (Rg.exec_append _ _ _ rfl rfl rfl r30) ⟨.inl rfl,trivial⟩ ?_;go_frame;have HT3:=ι t30;have K:=hK30
         clear r30 t30 sz30 bl30 hK30;refine Rg.Any.one (i:=16) (by kernel_rfl) (Rg.Any.run (some 4) rfl rfl rfl (Rg.xa (.slice aa27 (N+1) cc27) _ rfl rfl) ⟨.inl rfl,trivial⟩ ?_);go_frame;refine Rg.Any.one (i:=17) (by kernel_rfl) (Rg.Any.run (some 5) rfl rfl rfl (Rg.xa (.slice aa29 (N+1) cc29) _ rfl rfl) ⟨.inl rfl,trivial⟩ ?_);go_frame;refine Rg.Any.one (i:=18) (by kernel_rfl) (Rg.Any.run (some 6) rfl rfl rfl (Rg.xa (.slice aa30 (N+1) cc30) _ rfl rfl) ⟨.inl rfl,trivial⟩ ?_);go_frame;refine Rg.Any.done (by kernel_rfl) ?_ _;clear hS;go_wp2
         go_roundw
         case rel =>
          refine ⟨s+1,by omega,by go_num,ι ?_,K⟩;rw [innG_succ,putG_out (by rw [HXI.out]; exact HM.out),HXI.out];have hfin:=HT3.out;rw [HL1.out,HL2.out,HL3.out] at hfin;rw [tree_pts,tree_prs,tree_gns];exact hfin
         case measure=>simp [intOf]; omega
        ·obtain ⟨t31,p31,hb31⟩:=HT3.out.bld ((e.1:Nat):Int)
         have C31:=ι ((hb31.cell (p:=⟨q1,k,none⟩) (lt_of_cell C.out)).trans C.out);have hK31:=ι (K.out.trans (hb31.mono (by have:=K.out.size; omega)));have P1:=ι (P1.out.below hb31);have P3:=ι (P3.out.below hb31);refine Rg.Any.run (some 59) rfl rfl rfl (Rg.exec_buildSlice _ _ _ rfl _ rfl (run_build1i X26 ((e.1:Nat):Int))) (hS _ _ C31.out) ?_;go_frame;have HT3:=ι t31;have P2:=ι p31;have K:=hK31;have C:=C31;clear t31 p31 hb31 hK31 C31;generalize X26.alloc (.cells #[.int .i64 ((e.1:Nat):Int)] 3)=X31 at *;generalize X26.heap.size=z231 at *;refine Rg.Any.one (i:=3) (by kernel_rfl) ?_;obtain ⟨aa32,cc32,W32,r32,t32,sz32,kp32,od32,bl32⟩:=HT3.out.app1 (by have:=K.out.size; omega) P1.out (by have:=HL1L.out; omega) 36;rw [HL1L.out] at r32 t32 kp32 od32;have P3:=ι (kp32 _ _ P3.out);have P2:=ι (kp32 _ _ P2.out);have hK32:=ι (bl32 (Nat.le_refl _) K.out)
         refine Rg.Any.run (some 53) rfl rfl rfl (Rg.exec_append _ _ _ rfl rfl rfl r32) ⟨.inl rfl,trivial⟩ ?_;go_frame;have HT3:=ι t32;have K:=hK32;clear r32 t32 sz32 bl32 hK32 kp32 od32;refine Rg.Any.one (i:=10) (by kernel_rfl) ?_;obtain ⟨aa33,cc33,W33,r33,t33,sz33,kp33,bl33⟩:=HT3.out.app2 (by have:=K.out.size; omega) P2.out (by have:=HL2L.out; omega) 36;rw [HL2L.out] at r33 t33 kp33;have P3:=ι (kp33 _ _ P3.out);have hK33:=ι (bl33 (Nat.le_refl _) K.out);refine Rg.Any.run (some 60) rfl rfl rfl (Rg.exec_append _ _ _ rfl rfl rfl r33) ⟨.inl rfl,trivial⟩ ?_;go_frame;have HT3:=ι t33;have K:=hK33;clear r33 t33 sz33 bl33 hK33 kp33;refine Rg.Any.one (i:=15) (by kernel_rfl) ?_;obtain ⟨aa34,cc34,W34,r34,t34,sz34,bl34⟩:=HT3.out.app3 (by have:=K.out.size; omega) P3.out (by have:=HL3L.out; omega) 36;rw [HL3L.out] at r34 t34;have hK34:=ι (bl34 (Nat.le_refl _) K.out)
         refine Rg.Any.run (some 65) rfl rfl rfl (Rg.exec_append _ _ _ rfl rfl rfl r34) ⟨.inl rfl,trivial⟩ ?_;go_frame;have HT3:=ι t34;have K:=hK34;clear r34 t34 sz34 bl34 hK34;refine Rg.Any.one (i:=16) (by kernel_rfl) (Rg.Any.run (some 4) rfl rfl rfl (Rg.xa (.slice aa32 (N+1) cc32) _ rfl rfl) ⟨.inl rfl,trivial⟩ ?_);go_frame;refine Rg.Any.one (i:=17) (by kernel_rfl) (Rg.Any.run (some 5) rfl rfl rfl (Rg.xa (.slice aa33 (N+1) cc33) _ rfl rfl) ⟨.inl rfl,trivial⟩ ?_);go_frame;refine Rg.Any.one (i:=18) (by kernel_rfl) (Rg.Any.run (some 6) rfl rfl rfl (Rg.xa (.slice aa34 (N+1) cc34) _ rfl rfl) ⟨.inl rfl,trivial⟩ ?_);go_frame;refine Rg.Any.done (by kernel_rfl) ?_ _;clear hS;go_wp2
         go_roundw
         case rel =>
          refine ⟨s+1,by omega,by go_num,ι ?_,K⟩;rw [innG_succ,putG_out (by rw [HXI.out]; exact HM.out),HXI.out];have hfin:=HT3.out;rw [HL1.out,HL2.out,HL3.out] at hfin;rw [tree_pts,tree_prs,tree_gns];exact hfin
         case measure=>simp [intOf]; omega
      ·obtain ⟨t35,p35,hb35⟩:=HT3.out.bld ((e.1:Nat):Int)
       have C35:=ι ((hb35.cell (p:=⟨q1,k,none⟩) (lt_of_cell C.out)).trans C.out);have hK35:=ι (K.out.trans (hb35.mono (by have:=K.out.size; omega)));refine Rg.Any.run (some 59) rfl rfl rfl (Rg.exec_buildSlice _ _ _ rfl _ rfl (run_build1i V ((e.1:Nat):Int))) (hS _ _ C35.out) ?_;go_frame;have HT3:=ι t35;have P2:=ι p35;have K:=hK35;have C:=C35;clear t35 p35 hb35 hK35 C35;generalize V.alloc (.cells #[.int .i64 ((e.1:Nat):Int)] 3)=X35 at *;generalize V.heap.size=z235 at *;refine Rg.Any.all (rs:=[2,14]) (by kernel_rfl) (by simp) fun mm hmm=>?_;simp only [List.mem_cons,List.not_mem_nil,or_false] at hmm
       rcases hmm with rfl | rfl
       ·obtain ⟨t36,p36,hb36⟩:=HT3.out.bld (x:Int)
        have hK36:=ι (K.out.trans (hb36.mono (by have:=K.out.size; omega)));have P2:=ι (P2.out.below hb36);refine Rg.Any.run (some 52) rfl rfl rfl (Rg.exec_buildSlice _ _ _ rfl _ rfl (run_build1i X35 (x:Int))) ⟨.inl rfl,trivial⟩ ?_;go_frame;have HT3:=ι t36;have P1:=ι p36;have K:=hK36;clear t36 p36 hb36 hK36;generalize X35.alloc (.cells #[.int .i64 (x:Int)] 3)=X36 at *;generalize X35.heap.size=z136 at *;refine Rg.Any.all (rs:=[3,14]) (by kernel_rfl) (by simp) fun mm hmm=>?_;simp only [List.mem_cons,List.not_mem_nil,or_false] at hmm
        rcases hmm with rfl | rfl
        ·obtain ⟨aa37,cc37,W37,r37,t37,sz37,kp37,od37,bl37⟩:=HT3.out.app1 (by have:=K.out.size; omega) P1.out (by have:=HL1L.out; omega) 36
         rw [HL1L.out] at r37 t37 kp37 od37;have P2:=ι (kp37 _ _ P2.out);have hK37:=ι (bl37 (Nat.le_refl _) K.out);refine Rg.Any.run (some 53) rfl rfl rfl (Rg.exec_append _ _ _ rfl rfl rfl r37) ⟨.inl rfl,trivial⟩ ?_;go_frame;have HT3:=ι t37;have K:=hK37;clear r37 t37 sz37 bl37 hK37 kp37 od37;refine Rg.Any.all (rs:=[10,14]) (by kernel_rfl) (by simp) fun mm hmm=>?_;simp only [List.mem_cons,List.not_mem_nil,or_false] at hmm
         rcases hmm with rfl | rfl
         ·obtain ⟨aa38,cc38,W38,r38,t38,sz38,kp38,bl38⟩:=HT3.out.app2 (by have:=K.out.size; omega) P2.out (by have:=HL2L.out; omega) 36
          rw [HL2L.out] at r38 t38 kp38;have hK38:=ι (bl38 (Nat.le_refl _) K.out);refine Rg.Any.run (some 60) rfl rfl rfl (Rg.exec_append _ _ _ rfl rfl rfl r38) ⟨.inl rfl,trivial⟩ ?_;go_frame;have HT3:=ι t38;have K:=hK38;clear r38 t38 sz38 bl38 hK38 kp38;refine Rg.Any.one (i:=14) (by kernel_rfl) ?_;obtain ⟨t39,p39,hb39⟩:=HT3.out.bld ((s+1:Nat):Int);have hK39:=ι (K.out.trans (hb39.mono (by have:=K.out.size; omega)));refine Rg.Any.run (some 64) rfl rfl rfl (Rg.exec_buildSlice _ _ _ rfl _ rfl (run_build1i W38 ((s+1:Nat):Int))) ⟨.inl rfl,trivial⟩ ?_;go_frame;have HT3:=ι t39;have P3:=ι p39;have K:=hK39;clear t39 p39 hb39 hK39;generalize W38.alloc (.cells #[.int .i64 ((s+1:Nat):Int)] 3)=X39 at *;generalize W38.heap.size=z339 at *;refine Rg.Any.one (i:=15) (by kernel_rfl) ?_;obtain ⟨aa40,cc40,W40,r40,t40,sz40,bl40⟩:=HT3.out.app3 (by have:=K.out.size; omega) P3.out (by have:=HL3L.out; omega) 36
          rw [HL3L.out] at r40 t40;have hK40:=ι (bl40 (Nat.le_refl _) K.out);refine Rg.Any.run (some 65) rfl rfl rfl (Rg.exec_append _ _ _ rfl rfl rfl r40) ⟨.inl rfl,trivial⟩ ?_;go_frame;have HT3:=ι t40;have K:=hK40;clear r40 t40 sz40 bl40 hK40;refine Rg.Any.one (i:=16) (by kernel_rfl) (Rg.Any.run (some 4) rfl rfl rfl (Rg.xa (.slice aa37 (N+1) cc37) _ rfl rfl) ⟨.inl rfl,trivial⟩ ?_);go_frame;refine Rg.Any.one (i:=17) (by kernel_rfl) (Rg.Any.run (some 5) rfl rfl rfl (Rg.xa (.slice aa38 (N+1) cc38) _ rfl rfl) ⟨.inl rfl,trivial⟩ ?_);go_frame;refine Rg.Any.one (i:=18) (by kernel_rfl) (Rg.Any.run (some 6) rfl rfl rfl (Rg.xa (.slice aa40 (N+1) cc40) _ rfl rfl) ⟨.inl rfl,trivial⟩ ?_);go_frame;refine Rg.Any.done (by kernel_rfl) ?_ _;clear hS;go_wp2
          go_roundw
          case rel =>
           refine ⟨s+1,by omega,by go_num,ι ?_,K⟩;rw [innG_succ,putG_out (by rw [HXI.out]; exact HM.out),HXI.out];have hfin:=HT3.out;rw [HL1.out,HL2.out,HL3.out] at hfin;rw [tree_pts,tree_prs,tree_gns];exact hfin
          case measure=>simp [intOf]; omega
         ·obtain ⟨t41,p41,hb41⟩:=HT3.out.bld ((s+1:Nat):Int)
          have hK41:=ι (K.out.trans (hb41.mono (by have:=K.out.size; omega)));have P2:=ι (P2.out.below hb41);refine Rg.Any.run (some 64) rfl rfl rfl (Rg.exec_buildSlice _ _ _ rfl _ rfl (run_build1i W37 ((s+1:Nat):Int))) ⟨.inl rfl,trivial⟩ ?_;go_frame;have HT3:=ι t41;have P3:=ι p41;have K:=hK41;clear t41 p41 hb41 hK41;generalize W37.alloc (.cells #[.int .i64 ((s+1:Nat):Int)] 3)=X41 at *;generalize W37.heap.size=z341 at *;refine Rg.Any.one (i:=10) (by kernel_rfl) ?_;obtain ⟨aa42,cc42,W42,r42,t42,sz42,kp42,bl42⟩:=HT3.out.app2 (by have:=K.out.size; omega) P2.out (by have:=HL2L.out; omega) 36;rw [HL2L.out] at r42 t42 kp42;have P3:=ι (kp42 _ _ P3.out);have hK42:=ι (bl42 (Nat.le_refl _) K.out);refine Rg.Any.run (some 60) rfl rfl rfl (Rg.exec_append _ _ _ rfl rfl rfl r42) ⟨.inl rfl,trivial⟩ ?_;go_frame;have HT3:=ι t42;have K:=hK42;clear r42 t42 sz42 bl42 hK42 kp42
          refine Rg.Any.one (i:=15) (by kernel_rfl) ?_;obtain ⟨aa43,cc43,W43,r43,t43,sz43,bl43⟩:=HT3.out.app3 (by have:=K.out.size; omega) P3.out (by have:=HL3L.out; omega) 36;rw [HL3L.out] at r43 t43;have hK43:=ι (bl43 (Nat.le_refl _) K.out);refine Rg.Any.run (some 65) rfl rfl rfl (Rg.exec_append _ _ _ rfl rfl rfl r43) ⟨.inl rfl,trivial⟩ ?_;go_frame;have HT3:=ι t43;have K:=hK43;clear r43 t43 sz43 bl43 hK43;refine Rg.Any.one (i:=16) (by kernel_rfl) (Rg.Any.run (some 4) rfl rfl rfl (Rg.xa (.slice aa37 (N+1) cc37) _ rfl rfl) ⟨.inl rfl,trivial⟩ ?_);go_frame;refine Rg.Any.one (i:=17) (by kernel_rfl) (Rg.Any.run (some 5) rfl rfl rfl (Rg.xa (.slice aa42 (N+1) cc42) _ rfl rfl) ⟨.inl rfl,trivial⟩ ?_);go_frame;refine Rg.Any.one (i:=18) (by kernel_rfl) (Rg.Any.run (some 6) rfl rfl rfl (Rg.xa (.slice aa43 (N+1) cc43) _ rfl rfl) ⟨.inl rfl,trivial⟩ ?_);go_frame;refine Rg.Any.done (by kernel_rfl) ?_ _
          clear hS;go_wp2
          go_roundw
          case rel =>
           refine ⟨s+1,by omega,by go_num,ι ?_,K⟩;rw [innG_succ,putG_out (by rw [HXI.out]; exact HM.out),HXI.out];have hfin:=HT3.out;rw [HL1.out,HL2.out,HL3.out] at hfin;rw [tree_pts,tree_prs,tree_gns];exact hfin
          case measure=>simp [intOf]; omega
        ·obtain ⟨t44,p44,hb44⟩:=HT3.out.bld ((s+1:Nat):Int)
         have hK44:=ι (K.out.trans (hb44.mono (by have:=K.out.size; omega)));have P2:=ι (P2.out.below hb44);have P1:=ι (P1.out.below hb44);refine Rg.Any.run (some 64) rfl rfl rfl (Rg.exec_buildSlice _ _ _ rfl _ rfl (run_build1i X36 ((s+1:Nat):Int))) ⟨.inl rfl,trivial⟩ ?_;go_frame;have HT3:=ι t44;have P3:=ι p44;have K:=hK44;clear t44 p44 hb44 hK44;generalize X36.alloc (.cells #[.int .i64 ((s+1:Nat):Int)] 3)=X44 at *;generalize X36.heap.size=z344 at *;refine Rg.Any.one (i:=3) (by kernel_rfl) ?_;obtain ⟨aa45,cc45,W45,r45,t45,sz45,kp45,od45,bl45⟩:=HT3.out.app1 (by have:=K.out.size; omega) P1.out (by have:=HL1L.out; omega) 36;rw [HL1L.out] at r45 t45 kp45 od45;have P2:=ι (kp45 _ _ P2.out);have P3:=ι (kp45 _ _ P3.out);have hK45:=ι (bl45 (Nat.le_refl _) K.out);refine Rg.Any.run (some 53) rfl rfl rfl (Rg.exec_append _ _ _ rfl rfl rfl r45) ⟨.inl rfl,trivial⟩ ?_;go_frame
         have HT3:=ι t45;have K:=hK45;clear r45 t45 sz45 bl45 hK45 kp45 od45;refine Rg.Any.one (i:=10) (by kernel_rfl) ?_;obtain ⟨aa46,cc46,W46,r46,t46,sz46,kp46,bl46⟩:=HT3.out.app2 (by have:=K.out.size; omega) P2.out (by have:=HL2L.out; omega) 36;rw [HL2L.out] at r46 t46 kp46;have P3:=ι (kp46 _ _ P3.out);have hK46:=ι (bl46 (Nat.le_refl _) K.out);refine Rg.Any.run (some 60) rfl rfl rfl (Rg.exec_append _ _ _ rfl rfl rfl r46) ⟨.inl rfl,trivial⟩ ?_;go_frame;have HT3:=ι t46;have K:=hK46;clear r46 t46 sz46 bl46 hK46 kp46;refine Rg.Any.one (i:=15) (by kernel_rfl) ?_;obtain ⟨aa47,cc47,W47,r47,t47,sz47,bl47⟩:=HT3.out.app3 (by have:=K.out.size; omega) P3.out (by have:=HL3L.out; omega) 36;rw [HL3L.out] at r47 t47;have hK47:=ι (bl47 (Nat.le_refl _) K.out);refine Rg.Any.run (some 65) rfl rfl rfl (Rg.exec_append _ _ _ rfl rfl rfl r47) ⟨.inl rfl,trivial⟩ ?_;go_frame
         have HT3:=ι t47;have K:=hK47;clear r47 t47 sz47 bl47 hK47;refine Rg.Any.one (i:=16) (by kernel_rfl) (Rg.Any.run (some 4) rfl rfl rfl (Rg.xa (.slice aa45 (N+1) cc45) _ rfl rfl) ⟨.inl rfl,trivial⟩ ?_);go_frame;refine Rg.Any.one (i:=17) (by kernel_rfl) (Rg.Any.run (some 5) rfl rfl rfl (Rg.xa (.slice aa46 (N+1) cc46) _ rfl rfl) ⟨.inl rfl,trivial⟩ ?_);go_frame;refine Rg.Any.one (i:=18) (by kernel_rfl) (Rg.Any.run (some 6) rfl rfl rfl (Rg.xa (.slice aa47 (N+1) cc47) _ rfl rfl) ⟨.inl rfl,trivial⟩ ?_);go_frame;refine Rg.Any.done (by kernel_rfl) ?_ _;clear hS;go_wp2
         go_roundw
         case rel =>
          refine ⟨s+1,by omega,by go_num,ι ?_,K⟩;rw [innG_succ,putG_out (by rw [HXI.out]; exact HM.out),HXI.out];have hfin:=HT3.out;rw [HL1.out,HL2.out,HL3.out] at hfin;rw [tree_pts,tree_prs,tree_gns];exact hfin
         case measure=>simp [intOf]; omega
       ·obtain ⟨t48,p48,hb48⟩:=HT3.out.bld ((s+1:Nat):Int)
        have hK48:=ι (K.out.trans (hb48.mono (by have:=K.out.size; omega)));have P2:=ι (P2.out.below hb48);refine Rg.Any.run (some 64) rfl rfl rfl (Rg.exec_buildSlice _ _ _ rfl _ rfl (run_build1i X35 ((s+1:Nat):Int))) ⟨.inl rfl,trivial⟩ ?_;go_frame;have HT3:=ι t48;have P3:=ι p48;have K:=hK48;clear t48 p48 hb48 hK48;generalize X35.alloc (.cells #[.int .i64 ((s+1:Nat):Int)] 3)=X48 at *;generalize X35.heap.size=z348 at *;refine Rg.Any.one (i:=2) (by kernel_rfl) ?_;obtain ⟨t49,p49,hb49⟩:=HT3.out.bld (x:Int);have hK49:=ι (K.out.trans (hb49.mono (by have:=K.out.size; omega)));have P2:=ι (P2.out.below hb49);have P3:=ι (P3.out.below hb49);refine Rg.Any.run (some 52) rfl rfl rfl (Rg.exec_buildSlice _ _ _ rfl _ rfl (run_build1i X48 (x:Int))) ⟨.inl rfl,trivial⟩ ?_;go_frame;have HT3:=ι t49;have P1:=ι p49;have K:=hK49;clear t49 p49 hb49 hK49;generalize X48.alloc (.cells #[.int .i64 (x:Int)] 3)=X49 at *
        generalize X48.heap.size=z149 at *;refine Rg.Any.one (i:=3) (by kernel_rfl) ?_;obtain ⟨aa50,cc50,W50,r50,t50,sz50,kp50,od50,bl50⟩:=HT3.out.app1 (by have:=K.out.size; omega) P1.out (by have:=HL1L.out; omega) 36;rw [HL1L.out] at r50 t50 kp50 od50;have P2:=ι (kp50 _ _ P2.out);have P3:=ι (kp50 _ _ P3.out);have hK50:=ι (bl50 (Nat.le_refl _) K.out);refine Rg.Any.run (some 53) rfl rfl rfl (Rg.exec_append _ _ _ rfl rfl rfl r50) ⟨.inl rfl,trivial⟩ ?_;go_frame;have HT3:=ι t50;have K:=hK50;clear r50 t50 sz50 bl50 hK50 kp50 od50;refine Rg.Any.one (i:=10) (by kernel_rfl) ?_;obtain ⟨aa51,cc51,W51,r51,t51,sz51,kp51,bl51⟩:=HT3.out.app2 (by have:=K.out.size; omega) P2.out (by have:=HL2L.out; omega) 36;rw [HL2L.out] at r51 t51 kp51;have P3:=ι (kp51 _ _ P3.out);have hK51:=ι (bl51 (Nat.le_refl _) K.out);refine Rg.Any.run (some 60) rfl rfl rfl (Rg.exec_append _ _ _ rfl rfl rfl r51) ⟨.inl rfl,trivial⟩ ?_;go_frame
        have HT3:=ι t51;have K:=hK51;clear r51 t51 sz51 bl51 hK51 kp51;refine Rg.Any.one (i:=15) (by kernel_rfl) ?_;obtain ⟨aa52,cc52,W52,r52,t52,sz52,bl52⟩:=HT3.out.app3 (by have:=K.out.size; omega) P3.out (by have:=HL3L.out; omega) 36;rw [HL3L.out] at r52 t52;have hK52:=ι (bl52 (Nat.le_refl _) K.out);refine Rg.Any.run (some 65) rfl rfl rfl (Rg.exec_append _ _ _ rfl rfl rfl r52) ⟨.inl rfl,trivial⟩ ?_;go_frame;have HT3:=ι t52;have K:=hK52;clear r52 t52 sz52 bl52 hK52;refine Rg.Any.one (i:=16) (by kernel_rfl) (Rg.Any.run (some 4) rfl rfl rfl (Rg.xa (.slice aa50 (N+1) cc50) _ rfl rfl) ⟨.inl rfl,trivial⟩ ?_);go_frame;refine Rg.Any.one (i:=17) (by kernel_rfl) (Rg.Any.run (some 5) rfl rfl rfl (Rg.xa (.slice aa51 (N+1) cc51) _ rfl rfl) ⟨.inl rfl,trivial⟩ ?_);go_frame;refine Rg.Any.one (i:=18) (by kernel_rfl) (Rg.Any.run (some 6) rfl rfl rfl (Rg.xa (.slice aa52 (N+1) cc52) _ rfl rfl) ⟨.inl rfl,trivial⟩ ?_)
        go_frame;refine Rg.Any.done (by kernel_rfl) ?_ _;clear hS;go_wp2
        go_roundw
        case rel =>
         refine ⟨s+1,by omega,by go_num,ι ?_,K⟩;rw [innG_succ,putG_out (by rw [HXI.out]; exact HM.out),HXI.out];have hfin:=HT3.out;rw [HL1.out,HL2.out,HL3.out] at hfin;rw [tree_pts,tree_prs,tree_gns];exact hfin
        case measure=>simp [intOf]; omega
      ·obtain ⟨t53,p53,hb53⟩:=HT3.out.bld ((s+1:Nat):Int)
       have C53:=ι ((hb53.cell (p:=⟨q1,k,none⟩) (lt_of_cell C.out)).trans C.out);have hK53:=ι (K.out.trans (hb53.mono (by have:=K.out.size; omega)));refine Rg.Any.run (some 64) rfl rfl rfl (Rg.exec_buildSlice _ _ _ rfl _ rfl (run_build1i V ((s+1:Nat):Int))) (hS _ _ C53.out) ?_;go_frame;have HT3:=ι t53;have P3:=ι p53;have K:=hK53;have C:=C53;clear t53 p53 hb53 hK53 C53;generalize V.alloc (.cells #[.int .i64 ((s+1:Nat):Int)] 3)=X53 at *;generalize V.heap.size=z353 at *;refine Rg.Any.all (rs:=[2,9]) (by kernel_rfl) (by simp) fun mm hmm=>?_;simp only [List.mem_cons,List.not_mem_nil,or_false] at hmm
       rcases hmm with rfl | rfl
       ·obtain ⟨t54,p54,hb54⟩:=HT3.out.bld (x:Int)
        have C54:=ι ((hb54.cell (p:=⟨q1,k,none⟩) (lt_of_cell C.out)).trans C.out);have hK54:=ι (K.out.trans (hb54.mono (by have:=K.out.size; omega)));have P3:=ι (P3.out.below hb54);refine Rg.Any.run (some 52) rfl rfl rfl (Rg.exec_buildSlice _ _ _ rfl _ rfl (run_build1i X53 (x:Int))) (hS _ _ C54.out) ?_;go_frame;have HT3:=ι t54;have P1:=ι p54;have K:=hK54;have C:=C54;clear t54 p54 hb54 hK54 C54;generalize X53.alloc (.cells #[.int .i64 (x:Int)] 3)=X54 at *;generalize X53.heap.size=z154 at *;refine Rg.Any.all (rs:=[3,9]) (by kernel_rfl) (by simp) fun mm hmm=>?_;simp only [List.mem_cons,List.not_mem_nil,or_false] at hmm
        rcases hmm with rfl | rfl
        ·obtain ⟨aa55,cc55,W55,r55,t55,sz55,kp55,od55,bl55⟩:=HT3.out.app1 (by have:=K.out.size; omega) P1.out (by have:=HL1L.out; omega) 36
         rw [HL1L.out] at r55 t55 kp55 od55;have C55:=ι ((od55 q1 rfl k (by omega)).trans C.out);have P3:=ι (kp55 _ _ P3.out);have hK55:=ι (bl55 (Nat.le_refl _) K.out);refine Rg.Any.run (some 53) rfl rfl rfl (Rg.exec_append _ _ _ rfl rfl rfl r55) (hS _ _ C55.out) ?_;go_frame;have HT3:=ι t55;have K:=hK55;have C:=C55;clear r55 t55 sz55 bl55 hK55 kp55 od55 C55;refine Rg.Any.one (i:=9) (by kernel_rfl) ?_;obtain ⟨t56,p56,hb56⟩:=HT3.out.bld ((e.1:Nat):Int);have C56:=ι ((hb56.cell (p:=⟨q1,k,none⟩) (lt_of_cell C.out)).trans C.out);have hK56:=ι (K.out.trans (hb56.mono (by have:=K.out.size; omega)));have P3:=ι (P3.out.below hb56);refine Rg.Any.run (some 59) rfl rfl rfl (Rg.exec_buildSlice _ _ _ rfl _ rfl (run_build1i W55 ((e.1:Nat):Int))) (hS _ _ C56.out) ?_;go_frame;have HT3:=ι t56;have P2:=ι p56;have K:=hK56;have C:=C56;clear t56 p56 hb56 hK56 C56;generalize W55.alloc (.cells #[.int .i64 ((e.1:Nat):Int)] 3)=X56 at *
         generalize W55.heap.size=z256 at *;refine Rg.Any.one (i:=10) (by kernel_rfl) ?_;obtain ⟨aa57,cc57,W57,r57,t57,sz57,kp57,bl57⟩:=HT3.out.app2 (by have:=K.out.size; omega) P2.out (by have:=HL2L.out; omega) 36;rw [HL2L.out] at r57 t57 kp57;have P3:=ι (kp57 _ _ P3.out);have hK57:=ι (bl57 (Nat.le_refl _) K.out);refine Rg.Any.run (some 60) rfl rfl rfl (Rg.exec_append _ _ _ rfl rfl rfl r57) ⟨.inl rfl,trivial⟩ ?_;go_frame;have HT3:=ι t57;have K:=hK57;clear r57 t57 sz57 bl57 hK57 kp57;refine Rg.Any.one (i:=15) (by kernel_rfl) ?_;obtain ⟨aa58,cc58,W58,r58,t58,sz58,bl58⟩:=HT3.out.app3 (by have:=K.out.size; omega) P3.out (by have:=HL3L.out; omega) 36;rw [HL3L.out] at r58 t58;have hK58:=ι (bl58 (Nat.le_refl _) K.out);refine Rg.Any.run (some 65) rfl rfl rfl (Rg.exec_append _ _ _ rfl rfl rfl r58) ⟨.inl rfl,trivial⟩ ?_;go_frame;have HT3:=ι t58;have K:=hK58
         clear r58 t58 sz58 bl58 hK58;refine Rg.Any.one (i:=16) (by kernel_rfl) (Rg.Any.run (some 4) rfl rfl rfl (Rg.xa (.slice aa55 (N+1) cc55) _ rfl rfl) ⟨.inl rfl,trivial⟩ ?_);go_frame;refine Rg.Any.one (i:=17) (by kernel_rfl) (Rg.Any.run (some 5) rfl rfl rfl (Rg.xa (.slice aa57 (N+1) cc57) _ rfl rfl) ⟨.inl rfl,trivial⟩ ?_);go_frame;refine Rg.Any.one (i:=18) (by kernel_rfl) (Rg.Any.run (some 6) rfl rfl rfl (Rg.xa (.slice aa58 (N+1) cc58) _ rfl rfl) ⟨.inl rfl,trivial⟩ ?_);go_frame;refine Rg.Any.done (by kernel_rfl) ?_ _;clear hS;go_wp2
         go_roundw
         case rel =>
          refine ⟨s+1,by omega,by go_num,ι ?_,K⟩;rw [innG_succ,putG_out (by rw [HXI.out]; exact HM.out),HXI.out];have hfin:=HT3.out;rw [HL1.out,HL2.out,HL3.out] at hfin;rw [tree_pts,tree_prs,tree_gns];exact hfin
         case measure=>simp [intOf]; omega
        ·obtain ⟨t59,p59,hb59⟩:=HT3.out.bld ((e.1:Nat):Int)
         have C59:=ι ((hb59.cell (p:=⟨q1,k,none⟩) (lt_of_cell C.out)).trans C.out);have hK59:=ι (K.out.trans (hb59.mono (by have:=K.out.size; omega)));have P3:=ι (P3.out.below hb59);have P1:=ι (P1.out.below hb59);refine Rg.Any.run (some 59) rfl rfl rfl (Rg.exec_buildSlice _ _ _ rfl _ rfl (run_build1i X54 ((e.1:Nat):Int))) (hS _ _ C59.out) ?_;go_frame;have HT3:=ι t59;have P2:=ι p59;have K:=hK59;have C:=C59;clear t59 p59 hb59 hK59 C59;generalize X54.alloc (.cells #[.int .i64 ((e.1:Nat):Int)] 3)=X59 at *;generalize X54.heap.size=z259 at *;refine Rg.Any.one (i:=3) (by kernel_rfl) ?_;obtain ⟨aa60,cc60,W60,r60,t60,sz60,kp60,od60,bl60⟩:=HT3.out.app1 (by have:=K.out.size; omega) P1.out (by have:=HL1L.out; omega) 36;rw [HL1L.out] at r60 t60 kp60 od60;have P3:=ι (kp60 _ _ P3.out);have P2:=ι (kp60 _ _ P2.out);have hK60:=ι (bl60 (Nat.le_refl _) K.out)
         refine Rg.Any.run (some 53) rfl rfl rfl (Rg.exec_append _ _ _ rfl rfl rfl r60) ⟨.inl rfl,trivial⟩ ?_;go_frame;have HT3:=ι t60;have K:=hK60;clear r60 t60 sz60 bl60 hK60 kp60 od60;refine Rg.Any.one (i:=10) (by kernel_rfl) ?_;obtain ⟨aa61,cc61,W61,r61,t61,sz61,kp61,bl61⟩:=HT3.out.app2 (by have:=K.out.size; omega) P2.out (by have:=HL2L.out; omega) 36;rw [HL2L.out] at r61 t61 kp61;have P3:=ι (kp61 _ _ P3.out);have hK61:=ι (bl61 (Nat.le_refl _) K.out);refine Rg.Any.run (some 60) rfl rfl rfl (Rg.exec_append _ _ _ rfl rfl rfl r61) ⟨.inl rfl,trivial⟩ ?_;go_frame;have HT3:=ι t61;have K:=hK61;clear r61 t61 sz61 bl61 hK61 kp61;refine Rg.Any.one (i:=15) (by kernel_rfl) ?_;obtain ⟨aa62,cc62,W62,r62,t62,sz62,bl62⟩:=HT3.out.app3 (by have:=K.out.size; omega) P3.out (by have:=HL3L.out; omega) 36;rw [HL3L.out] at r62 t62;have hK62:=ι (bl62 (Nat.le_refl _) K.out)
         refine Rg.Any.run (some 65) rfl rfl rfl (Rg.exec_append _ _ _ rfl rfl rfl r62) ⟨.inl rfl,trivial⟩ ?_;go_frame;have HT3:=ι t62;have K:=hK62;clear r62 t62 sz62 bl62 hK62;refine Rg.Any.one (i:=16) (by kernel_rfl) (Rg.Any.run (some 4) rfl rfl rfl (Rg.xa (.slice aa60 (N+1) cc60) _ rfl rfl) ⟨.inl rfl,trivial⟩ ?_);go_frame;refine Rg.Any.one (i:=17) (by kernel_rfl) (Rg.Any.run (some 5) rfl rfl rfl (Rg.xa (.slice aa61 (N+1) cc61) _ rfl rfl) ⟨.inl rfl,trivial⟩ ?_);go_frame;refine Rg.Any.one (i:=18) (by kernel_rfl) (Rg.Any.run (some 6) rfl rfl rfl (Rg.xa (.slice aa62 (N+1) cc62) _ rfl rfl) ⟨.inl rfl,trivial⟩ ?_);go_frame;refine Rg.Any.done (by kernel_rfl) ?_ _;clear hS;go_wp2
         go_roundw
         case rel =>
          refine ⟨s+1,by omega,by go_num,ι ?_,K⟩;rw [innG_succ,putG_out (by rw [HXI.out]; exact HM.out),HXI.out];have hfin:=HT3.out;rw [HL1.out,HL2.out,HL3.out] at hfin;rw [tree_pts,tree_prs,tree_gns];exact hfin
         case measure=>simp [intOf]; omega
       ·obtain ⟨t63,p63,hb63⟩:=HT3.out.bld ((e.1:Nat):Int)
        have C63:=ι ((hb63.cell (p:=⟨q1,k,none⟩) (lt_of_cell C.out)).trans C.out);have hK63:=ι (K.out.trans (hb63.mono (by have:=K.out.size; omega)));have P3:=ι (P3.out.below hb63);refine Rg.Any.run (some 59) rfl rfl rfl (Rg.exec_buildSlice _ _ _ rfl _ rfl (run_build1i X53 ((e.1:Nat):Int))) (hS _ _ C63.out) ?_;go_frame;have HT3:=ι t63;have P2:=ι p63;have K:=hK63;have C:=C63;clear t63 p63 hb63 hK63 C63;generalize X53.alloc (.cells #[.int .i64 ((e.1:Nat):Int)] 3)=X63 at *;generalize X53.heap.size=z263 at *;refine Rg.Any.one (i:=2) (by kernel_rfl) ?_;obtain ⟨t64,p64,hb64⟩:=HT3.out.bld (x:Int);have hK64:=ι (K.out.trans (hb64.mono (by have:=K.out.size; omega)));have P3:=ι (P3.out.below hb64);have P2:=ι (P2.out.below hb64);refine Rg.Any.run (some 52) rfl rfl rfl (Rg.exec_buildSlice _ _ _ rfl _ rfl (run_build1i X63 (x:Int))) ⟨.inl rfl,trivial⟩ ?_;go_frame
        have HT3:=ι t64;have P1:=ι p64;have K:=hK64;clear t64 p64 hb64 hK64;generalize X63.alloc (.cells #[.int .i64 (x:Int)] 3)=X64 at *;generalize X63.heap.size=z164 at *;refine Rg.Any.one (i:=3) (by kernel_rfl) ?_;obtain ⟨aa65,cc65,W65,r65,t65,sz65,kp65,od65,bl65⟩:=HT3.out.app1 (by have:=K.out.size; omega) P1.out (by have:=HL1L.out; omega) 36;rw [HL1L.out] at r65 t65 kp65 od65;have P3:=ι (kp65 _ _ P3.out);have P2:=ι (kp65 _ _ P2.out);have hK65:=ι (bl65 (Nat.le_refl _) K.out);refine Rg.Any.run (some 53) rfl rfl rfl (Rg.exec_append _ _ _ rfl rfl rfl r65) ⟨.inl rfl,trivial⟩ ?_;go_frame;have HT3:=ι t65;have K:=hK65;clear r65 t65 sz65 bl65 hK65 kp65 od65;refine Rg.Any.one (i:=10) (by kernel_rfl) ?_;obtain ⟨aa66,cc66,W66,r66,t66,sz66,kp66,bl66⟩:=HT3.out.app2 (by have:=K.out.size; omega) P2.out (by have:=HL2L.out; omega) 36;rw [HL2L.out] at r66 t66 kp66
        have P3:=ι (kp66 _ _ P3.out);have hK66:=ι (bl66 (Nat.le_refl _) K.out);refine Rg.Any.run (some 60) rfl rfl rfl (Rg.exec_append _ _ _ rfl rfl rfl r66) ⟨.inl rfl,trivial⟩ ?_;go_frame;have HT3:=ι t66;have K:=hK66;clear r66 t66 sz66 bl66 hK66 kp66;refine Rg.Any.one (i:=15) (by kernel_rfl) ?_;obtain ⟨aa67,cc67,W67,r67,t67,sz67,bl67⟩:=HT3.out.app3 (by have:=K.out.size; omega) P3.out (by have:=HL3L.out; omega) 36;rw [HL3L.out] at r67 t67;have hK67:=ι (bl67 (Nat.le_refl _) K.out);refine Rg.Any.run (some 65) rfl rfl rfl (Rg.exec_append _ _ _ rfl rfl rfl r67) ⟨.inl rfl,trivial⟩ ?_;go_frame;have HT3:=ι t67;have K:=hK67;clear r67 t67 sz67 bl67 hK67;refine Rg.Any.one (i:=16) (by kernel_rfl) (Rg.Any.run (some 4) rfl rfl rfl (Rg.xa (.slice aa65 (N+1) cc65) _ rfl rfl) ⟨.inl rfl,trivial⟩ ?_);go_frame;refine Rg.Any.one (i:=17) (by kernel_rfl) (Rg.Any.run (some 5) rfl rfl rfl (Rg.xa (.slice aa66 (N+1) cc66) _ rfl rfl) ⟨.inl rfl,trivial⟩ ?_)
        go_frame;refine Rg.Any.one (i:=18) (by kernel_rfl) (Rg.Any.run (some 6) rfl rfl rfl (Rg.xa (.slice aa67 (N+1) cc67) _ rfl rfl) ⟨.inl rfl,trivial⟩ ?_);go_frame;refine Rg.Any.done (by kernel_rfl) ?_ _;clear hS;go_wp2
        go_roundw
        case rel =>
         refine ⟨s+1,by omega,by go_num,ι ?_,K⟩;rw [innG_succ,putG_out (by rw [HXI.out]; exact HM.out),HXI.out];have hfin:=HT3.out;rw [HL1.out,HL2.out,HL3.out] at hfin;rw [tree_pts,tree_prs,tree_gns];exact hfin
        case measure=>simp [intOf]; omega
    ·obtain rfl:s=gs.length:=by omega
     go_wp2
     go_roundw
     case rel=>exact ⟨k+1,by have:=trI_pre gs p k; obtain ⟨r,hr⟩:=this; rw [hr,List.length_append]; omega,by go_num,ι (by rw [hst.out,← he.out]; exact hs.out),hbel⟩
     case measure=>simp [intOf]; omega
  ·have hkk:(trI gs p k).length≤k:=by omega
   have hT:=tree_at (D:=D) hkk (by omega);have HT:=ι hs.out;clear hs;go_wp2;refine bodyPost_ret (results4 rfl _ rfl rfl rfl rfl _) rfl ⟨_,_,_,rfl,by rw [hT]; exact HT.out.ints1 (by rw [Ma.len_ofN,len_pts]; omega),by rw [hT]; exact HT.out.ints2 (by simp [prs]; omega),by rw [hT]; exact HT.out.ints3 (by simp [gns]; omega),Hba.out.trans ((HB3.out.trans hbel.out).mono (by omega))⟩

def Gd (d:Nat) (p:List Nat):Prop:=Ma.okN p∧p.length=d
theorem Gd.mul {d:Nat} {p q:List Nat} (h:Gd d p) (h':Gd d q):Gd d (Ma.mulN p q):=⟨Ma.okN_mulN h.1 h'.1 (h.2.trans h'.2.symm),by rw [Ma.len_mulN]; exact h.2⟩
theorem Gd.one (D:Nat):Gd D (Ma.oneN D):=⟨Ma.okN_oneN D,Ma.len_oneN D⟩
theorem Gd.inv {D:Nat} {s:List Nat} (hs:Gd D s):Gd D (Ma.invN s):=⟨Ma.okN_invN hs.1,by rw [Ma.len_invN]; exact hs.2⟩
theorem Gd.lt {D:Nat} {a b:List Nat} (ha:Gd D a) (hb:Gd D b):∀ x∈a,x<b.length:=fun x hx=>by
 have:=ha.1.1 x hx; have:=ha.2; have:=hb.2; omega
def GA (w:World) (b D:Nat) (a:Option Addr) (gs:List (List Nat)) (c:Nat):Prop :=
 w.cell? ⟨b,0,none⟩=some (.int .i64 ((D:Nat):Int))∧w.cell? ⟨b,1,none⟩=some (.slice a gs.length c)∧Rg.NRows w (.slice a gs.length c) gs∧b<w.heap.size
theorem GA.c0 {w:World} {b D:Nat} {a:Option Addr} {gs:List (List Nat)} {c:Nat} (h:GA w b D a gs c):w.cell? ⟨b,0,none⟩=some (.int .i64 ((D:Nat):Int)):=h.1
theorem GA.c1 {w:World} {b D:Nat} {a:Option Addr} {gs:List (List Nat)} {c:Nat} (h:GA w b D a gs c):w.cell? ⟨b,1,none⟩=some (.slice a gs.length c):=h.2.1
theorem GA.rows {w:World} {b D:Nat} {a:Option Addr} {gs:List (List Nat)} {c:Nat} (h:GA w b D a gs c):Rg.NRows w (.slice a gs.length c) gs:=h.2.2.1
theorem GA.lt {w:World} {b D:Nat} {a:Option Addr} {gs:List (List Nat)} {c:Nat} (h:GA w b D a gs c):b<w.heap.size:=h.2.2.2
theorem GA.below {w w':World} {b D:Nat} {a:Option Addr} {gs:List (List Nat)} {c:Nat} (h:GA w b D a gs c) (hb:Below w.heap.size w w'):GA w' b D a gs c :=
 ⟨(hb.cell (p:=⟨b,0,none⟩) h.lt).trans h.c0,(hb.cell (p:=⟨b,1,none⟩) h.lt).trans h.c1,Rg.NRows.below h.rows hb,Nat.lt_of_lt_of_le h.lt hb.size⟩
theorem GA.new {w:World} {D:Nat} {a:Option Addr} {gs:List (List Nat)} {c:Nat} (h:Rg.NRows w (.slice a gs.length c) gs):GA (w.alloc (.cells #[.int .i64 (D:Int),.slice a gs.length c] 24)) w.heap.size D a gs c :=
 ⟨by rw [Rg.cellNew]; rfl,by rw [Rg.cellNew]; rfl,Rg.NRows.below h ((Below.refl _ _).alloc (Nat.le_refl _) _),by simp⟩
theorem GA.gens {w:World} {b D:Nat} {gs:List (List Nat)} {a:Option Addr} {c:Nat} (h:GA w b D a gs c) (h0:0<gs.length):∃ bg og,a=some ⟨bg,og,none⟩∧bg<w.heap.size∧∀ i (hi:i<gs.length),∃ u,w.cell? ⟨bg,og+i,none⟩=some u∧Rg.NP w u gs[i]:=by
 obtain ⟨ga,gc,e1,_,_,_,hgr⟩:=h.rows.shape
 cases e1
 obtain ⟨bg,og,e2,hbg,hgc⟩:=hgr h0;exact ⟨bg,og,e2,hbg,hgc⟩
theorem exec_fieldG0 {o:Oper} {a:Act} {w:World} {b:Nat} (x:Operand) (ho:o.op=.fieldAddr 24 x 0) (hx:a.eval x=.pointer (some ⟨b,0,none⟩)) :
  (execOp a.eval o).run Tryz.prog w=.ok (.value (.pointer (some ⟨b,0,none⟩))) w:=by
 have h:(Instr.fieldAt 24 (.pointer (some ⟨b,0,none⟩)) 0).run Tryz.prog w=.ok (.pointer (some ⟨b,0,none⟩)) w:=by kernel_rfl
 unfold execOp;simp only [ho,hx,Sem.run_bind,Sem.run_pure,h,Result.andThen_ok]
end Go.Proofs.YthehbckogieimaaGreat

namespace Go.Proofs.Cm
open Go.Proofs
def Gd (n:Nat) (p:List Nat):Prop:=Ma.okN p∧p.length=n
def ap (x:List Nat) (i:Nat):Nat:=x.getD i 0
theorem ap_at {x:List Nat} {i:Nat} (h:i<x.length):ap x i=x[i]:=by simp [ap,List.getD,List.getElem?_eq_getElem h]
theorem ap_lt {n:Nat} {x:List Nat} (h:Gd n x) {i:Nat} (hi:i<n):ap x i<n:=by
 have hl:i<x.length:=by rw [h.2]; exact hi
 rw [ap_at hl,← h.2];exact h.1.1 _ (List.getElem_mem hl)
theorem ap_inj {n:Nat} {x:List Nat} (h:Gd n x) {i j:Nat} (hi:i<n) (hj:j<n) (e:ap x i=ap x j):i=j:=by
 have h1:i<x.length:=by rw [h.2]; exact hi
 have h2:j<x.length:=by rw [h.2]; exact hj
 rw [ap_at h1,ap_at h2] at e;exact (List.getElem_inj h.1.2).1 e
theorem gd_ext {n:Nat} {a b:List Nat} (ha:a.length=n) (hb:b.length=n) (h:∀ i,i<n→ap a i=ap b i):a=b:=by
 apply List.ext_getElem (by omega)
 intro i h1 h2;have:=h i (by omega)
 rwa [ap_at h1,ap_at h2] at this
theorem gd_one (n:Nat):Gd n (Ma.oneN n):=⟨Ma.okN_oneN n,Ma.len_oneN n⟩
theorem gd_mul {n:Nat} {a b:List Nat} (ha:Gd n a) (hb:Gd n b):Gd n (Ma.mulN a b):=⟨Ma.okN_mulN ha.1 hb.1 (ha.2.trans hb.2.symm),by rw [Ma.len_mulN]; exact ha.2⟩
theorem gd_inv {n:Nat} {a:List Nat} (ha:Gd n a):Gd n (Ma.invN a):=⟨Ma.okN_invN ha.1,by rw [Ma.len_invN]; exact ha.2⟩
theorem ap_one {n i:Nat} (h:i<n):ap (Ma.oneN n) i=i:=by
 rw [ap_at (by rw [Ma.len_oneN]; exact h),Ma.get_oneN]
theorem ap_mul {n:Nat} {a b:List Nat} (ha:Gd n a) {i:Nat} (h:i<n):ap (Ma.mulN a b) i=ap b (ap a i):=by
 have hl:i<a.length:=by rw [ha.2]; exact h
 rw [ap_at (by rw [Ma.len_mulN]; exact hl),Ma.get_mulN,ap_at hl]; rfl
theorem ap_inv {n:Nat} {s:List Nat} (hs:Gd n s) {i:Nat} (h:i<n):ap (Ma.invN s) (ap s i)=i:=by
 have hl:i<s.length:=by rw [hs.2]; exact h
 have h2:=ap_lt hs h;rw [ap_at (x:=Ma.invN s) (by rw [Ma.len_invN,hs.2]; exact h2),Ma.get_invN,ap_at hl];exact Ma.idx_get hs.1 hl
theorem ap_inv2 {n:Nat} {s:List Nat} (hs:Gd n s) {i:Nat} (h:i<n):ap s (ap (Ma.invN s) i)=i:=by
 have h1:=ap_lt (gd_inv hs) h;have h2:=ap_inv (gd_inv hs) h;refine ap_inj (gd_inv hs) (ap_lt hs h1) h ?_;rw [ap_inv hs h1]
theorem mul_assoc {n:Nat} {a b c:List Nat} (ha:Gd n a) (hb:Gd n b):Ma.mulN (Ma.mulN a b) c=Ma.mulN a (Ma.mulN b c):=by
 refine gd_ext (n:=n) (by rw [Ma.len_mulN,Ma.len_mulN]; exact ha.2) (by rw [Ma.len_mulN]; exact ha.2) fun i hi=>?_;rw [ap_mul (gd_mul ha hb) hi,ap_mul ha hi,ap_mul ha hi,ap_mul hb (ap_lt ha hi)]
theorem one_mul {n:Nat} {x:List Nat} (hx:Gd n x):Ma.mulN (Ma.oneN n) x=x :=
 gd_ext (n:=n) (by rw [Ma.len_mulN,Ma.len_oneN]) hx.2 fun i hi=>by rw [ap_mul (gd_one n) hi,ap_one hi]
theorem mul_one {n:Nat} {x:List Nat} (hx:Gd n x):Ma.mulN x (Ma.oneN n)=x :=
 gd_ext (n:=n) (by rw [Ma.len_mulN]; exact hx.2) hx.2 fun i hi=>by rw [ap_mul hx hi,ap_one (ap_lt hx hi)]
theorem mul_inv {n:Nat} {x:List Nat} (hx:Gd n x):Ma.mulN x (Ma.invN x)=Ma.oneN n :=
 gd_ext (n:=n) (by rw [Ma.len_mulN]; exact hx.2) (Ma.len_oneN n) fun i hi=>by rw [ap_mul hx hi,ap_inv hx hi,ap_one hi]
theorem inv_mul {n:Nat} {x:List Nat} (hx:Gd n x):Ma.mulN (Ma.invN x) x=Ma.oneN n :=
 gd_ext (n:=n) (by rw [Ma.len_mulN,Ma.len_invN]; exact hx.2) (Ma.len_oneN n) fun i hi=>by rw [ap_mul (gd_inv hx) hi,ap_inv2 hx hi,ap_one hi]
theorem inv_one (n:Nat):Ma.invN (Ma.oneN n)=Ma.oneN n:=by
 have:=mul_inv (gd_one n)
 rwa [one_mul (gd_inv (gd_one n))] at this
theorem mul_inv_cancel {n:Nat} {x u:List Nat} (hx:Gd n x) (hu:Gd n u):Ma.mulN (Ma.mulN x (Ma.invN u)) u=x:=by
 rw [mul_assoc hx (gd_inv hu),inv_mul hu,mul_one hx]
theorem mul_cancel_inv {n:Nat} {x u:List Nat} (hx:Gd n x) (hu:Gd n u):Ma.mulN (Ma.mulN x u) (Ma.invN u)=x:=by
 rw [mul_assoc hx hu,mul_inv hu,mul_one hx]
structure IsG (n:Nat) (H:List Nat→Prop):Prop where
 gd:∀ x,H x→Gd n x
 one:H (Ma.oneN n)
 mul:∀ x y,H x→H y→H (Ma.mulN x y)
 inv:∀ x,H x→H (Ma.invN x)
inductive Gr (n:Nat) (gs:List Nat→Prop):List Nat→Prop
 | one:Gr n gs (Ma.oneN n)
 | gen (s:List Nat) (h:gs s):Gr n gs s
 | mul (x y:List Nat) (hx:Gr n gs x) (hy:Gr n gs y):Gr n gs (Ma.mulN x y)
 | inv (x:List Nat) (hx:Gr n gs x):Gr n gs (Ma.invN x)
theorem Gr.isG {n:Nat} {gs:List Nat→Prop} (h:∀ s,gs s→Gd n s):IsG n (Gr n gs):=by
 refine ⟨fun x hx=>?_,.one,fun x y=>.mul x y,fun x=>.inv x⟩
 induction hx with
 | one=>exact gd_one n
 | gen s hs=>exact h s hs
 | mul x y _ _ i1 i2=>exact gd_mul i1 i2
 | inv x _ i1=>exact gd_inv i1
theorem Gr.sub {n:Nat} {gs:List Nat→Prop} {H:List Nat→Prop} (hH:IsG n H) (h:∀ s,gs s→H s) {x:List Nat} (hx:Gr n gs x):H x:=by
 induction hx with
 | one=>exact hH.one
 | gen s hs=>exact h s hs
 | mul x y _ _ i1 i2=>exact hH.mul _ _ i1 i2
 | inv x _ i1=>exact hH.inv _ i1
theorem Gr.mono {n:Nat} {gs gs':List Nat→Prop} (h:∀ s,gs s→gs' s) {x:List Nat} (hx:Gr n gs x):Gr n gs' x:=by
 induction hx with
 | one=>exact .one
 | gen s hs=>exact .gen s (h s hs)
 | mul x y _ _ i1 i2=>exact .mul _ _ i1 i2
 | inv x _ i1=>exact .inv _ i1
def Fx (i:Nat) (x:List Nat):Prop:=∀ j,j<i→ap x j=j
theorem Fx.mono {i j:Nat} {x:List Nat} (h:Fx i x) (hij:j≤i):Fx j x:=fun k hk=>h k (Nat.lt_of_lt_of_le hk hij)
theorem Fx.one {n i:Nat} (hi:i≤n):Fx i (Ma.oneN n):=fun _ hj=>ap_one (Nat.lt_of_lt_of_le hj hi)
theorem Fx.mul {n i:Nat} {x y:List Nat} (gx:Gd n x) (hi:i≤n) (hx:Fx i x) (hy:Fx i y):Fx i (Ma.mulN x y):=fun j hj=>by
 rw [ap_mul gx (Nat.lt_of_lt_of_le hj hi),hx j hj,hy j hj]
theorem Fx.inv {n i:Nat} {x:List Nat} (gx:Gd n x) (hi:i≤n) (hx:Fx i x):Fx i (Ma.invN x):=fun j hj=>by
 have:=ap_inv gx (Nat.lt_of_lt_of_le hj hi)
 rwa [hx j hj] at this
theorem Fx.all {n:Nat} {x:List Nat} (gx:Gd n x) (hx:Fx n x):x=Ma.oneN n :=
 gd_ext gx.2 (Ma.len_oneN n) fun i hi=>by rw [hx i hi,ap_one hi]
def St (H:List Nat→Prop) (i:Nat) (x:List Nat):Prop:=H x∧Fx i x
abbrev Tr:=Nat→Nat→Option (List Nat)
def Sd (n:Nat) (tr:Tr):Nat→List Nat→Prop
 | 0,x=>x=Ma.oneN n
 | d+1,x=>∃ u,tr (n - (d+1)) (ap x (n - (d+1)))=some u∧Sd n tr d (Ma.mulN x (Ma.invN u))
structure Rp (n lo:Nat) (tr:Tr):Prop where
 gd:∀ i p u,lo≤i→i<n→tr i p=some u→Gd n u
 fx:∀ i p u,lo≤i→i<n→tr i p=some u→Fx i u
 at_:∀ i p u,lo≤i→i<n→tr i p=some u→ap u i=p
 self:∀ i,lo≤i→i<n→tr i i=some (Ma.oneN n)
theorem Sd.fx {n lo:Nat} {tr:Tr} (hr:Rp n lo tr):∀ {d:Nat} {x:List Nat},d≤n→lo≤n - d→Gd n x→Sd n tr d x→Fx (n - d) x
 | 0,x,hd,_,gx,h=>by
  cases h
  exact Fx.one (by omega)
 | d+1,x,hd,hl,gx,⟨u,hu,h⟩=>by
  have gu:=hr.gd _ _ _ hl (by omega) hu;have h1:=Sd.fx hr (by omega) (by omega) (gd_mul gx (gd_inv gu)) h;have h2:=mul_inv_cancel gx gu;have h3:=Fx.mul (i:=n - (d+1)) (gd_mul gx (gd_inv gu)) (by omega) (h1.mono (by omega)) (hr.fx _ _ _ hl (by omega) hu)
  rwa [h2] at h3
theorem Sd.one {n lo:Nat} {tr:Tr} (hr:Rp n lo tr):∀ {d:Nat},d≤n→lo≤n - d→Sd n tr d (Ma.oneN n)
 | 0,_,_=>rfl
 | d+1,hd,hl=>⟨Ma.oneN n,by rw [ap_one (by omega)]; exact hr.self _ hl (by omega),by rw [inv_one,one_mul (gd_one n)]; exact Sd.one hr (by omega) (by omega)⟩
theorem Sd.next {n lo:Nat} {tr:Tr} (hr:Rp n lo tr) {d:Nat} (hd:d+1≤n) (hl:lo≤n - (d+1)) {x:List Nat} (gx:Gd n x) (hx:ap x (n - (d+1))=n - (d+1)):Sd n tr (d+1) x↔Sd n tr d x:=by
 have e:tr (n - (d+1)) (ap x (n - (d+1)))=some (Ma.oneN n):=by rw [hx]; exact hr.self _ hl (by omega)
 constructor
 ·rintro ⟨u,hu,h⟩
  rw [e] at hu
  cases hu
  rwa [inv_one,mul_one gx] at h
 ·intro h
  exact ⟨_,e,by rw [inv_one,mul_one gx]; exact h⟩
theorem Sd.up {n lo:Nat} {tr:Tr} (hr:Rp n lo tr):∀ {k d:Nat},d+k≤n→lo≤n - (d+k)→∀ {x:List Nat},Gd n x→Fx (n - d) x→(Sd n tr (d+k) x↔Sd n tr d x)
 | 0,d,_,_,x,_,_=>Iff.rfl
 | k+1,d,h,hl,x,gx,hx=>by
  have h1:=Sd.next hr (d:=d+k) (by omega) hl gx (hx _ (by omega));exact h1.trans (Sd.up hr (by omega) (by omega) gx hx)
theorem Sd.cons {n lo:Nat} {tr:Tr} (hr:Rp n lo tr) {d p:Nat} (hd:d+1≤n) (hl:lo≤n - (d+1)) {y u:List Nat} (gy:Gd n y) (hy:Sd n tr d y) (hu:tr (n - (d+1)) p=some u):Sd n tr (d+1) (Ma.mulN y u):=by
 have gu:=hr.gd _ _ _ hl (by omega) hu;have fy:=Sd.fx hr (by omega) (by omega) gy hy
 have e:ap (Ma.mulN y u) (n - (d+1))=p:=by
  rw [ap_mul gy (by omega),fy _ (by omega),hr.at_ _ _ _ hl (by omega) hu]
 exact ⟨u,by rw [e]; exact hu,by rw [mul_cancel_inv gy gu]; exact hy⟩
theorem Sd.mono {n:Nat} {tr tr':Tr}:∀ {d:Nat},(∀ i p u,n - d≤i→tr i p=some u→tr' i p=some u)→∀ {x:List Nat},Sd n tr d x→Sd n tr' d x
 | 0,_,_,e=>e
 | d+1,h,_,⟨u,hu,hs⟩=>⟨u,h _ _ _ (Nat.le_refl _) hu,Sd.mono (fun i p u hi=>h i p u (by omega)) hs⟩
structure Tow (n lo:Nat) (gn:Nat→List Nat→Prop) (tr:Tr):Prop where
 rp:Rp n lo tr
 gd:∀ i s,lo≤i→i<n→gn i s→Gd n s
 low:∀ i s,lo≤i→i+1<n→gn (i+1) s→Gr n (gn i) s
 mem:∀ i p u,lo≤i→i<n→tr i p=some u→Gr n (gn i) u
 cl:∀ i p u s,lo≤i→i<n→tr i p=some u→gn i s→∃ v,tr i (ap s p)=some v∧Sd n tr (n - (i+1)) (Ma.mulN (Ma.mulN u s) (Ma.invN v))
theorem Tow.sub {n lo:Nat} {gn:Nat→List Nat→Prop} {tr:Tr} (h:Tow n lo gn tr) {i:Nat} (hl:lo≤i):∀ {k:Nat},i+k<n→∀ {x:List Nat},Gr n (gn (i+k)) x→Gr n (gn i) x
 | 0,_,x,hx=>hx
 | k+1,hk,x,hx=>h.sub hl (k:=k) (by omega) (Gr.sub (Gr.isG (fun s hs=>h.gd _ s (by omega) (by omega) hs)) (fun s hs=>h.low (i+k) s (by omega) (by omega) hs) hx)
theorem Tow.gr {n lo:Nat} {gn:Nat→List Nat→Prop} {tr:Tr} (h:Tow n lo gn tr) {i:Nat} (hl:lo≤i) (hi:i<n):∀ {d:Nat},i+d≤n→∀ {x:List Nat},Gd n x→Sd n tr d x→n - d≥i→Gr n (gn i) x
 | 0,_,x,_,e,_=>by cases e; exact .one
 | d+1,hd,x,gx,⟨u,hu,hs⟩,hge=>by
  have gu:=h.rp.gd _ _ _ (by omega) (by omega) hu;have h1:=Tow.gr h hl hi (d:=d) (by omega) (gd_mul gx (gd_inv gu)) hs (by omega)
  have h2:Gr n (gn i) u:=by
   have:=h.mem _ _ _ (by omega) (by omega) hu;exact h.sub hl (i:=i) (k:=n - (d+1) - i) (by omega) (by rwa [show i+(n - (d+1) - i)=n - (d+1) by omega])
  have:=Gr.mul _ _ h1 h2
  rwa [mul_inv_cancel gx gu] at this
def pw (n:Nat) (s:List Nat):Nat→List Nat
 | 0=>Ma.oneN n
 | k+1=>Ma.mulN (pw n s k) s
theorem pw_gd {n:Nat} {s:List Nat} (hs:Gd n s):∀ k,Gd n (pw n s k)
 | 0=>gd_one n
 | k+1=>gd_mul (pw_gd hs k) hs
theorem pw_add {n:Nat} {s:List Nat} (hs:Gd n s) (i:Nat):∀ j,pw n s (i+j)=Ma.mulN (pw n s i) (pw n s j)
 | 0=>(mul_one (pw_gd hs i)).symm
 | j+1=>by
  show Ma.mulN (pw n s (i+j)) s=Ma.mulN (pw n s i) (Ma.mulN (pw n s j) s);rw [pw_add hs i j,mul_assoc (pw_gd hs i) (pw_gd hs j)]
def allL (n:Nat):Nat→List (List Nat)
 | 0=>[[]]
 | k+1=>(allL n k).flatMap fun l=>(List.range n).map fun x=>x :: l
theorem mem_allL {n:Nat}:∀ {l:List Nat},(∀ x∈l,x<n)→l∈allL n l.length
 | [],_=>by simp [allL]
 | x :: l,h=>by
  have h1:=mem_allL (l:=l) (fun y hy=>h y (List.mem_cons_of_mem _ hy));have h2:=h x (List.mem_cons_self ..);rw [List.length_cons,allL,List.mem_flatMap];exact ⟨l,h1,List.mem_map.2 ⟨x,List.mem_range.2 h2,rfl⟩⟩
theorem pw_mem {n:Nat} {s:List Nat} (hs:Gd n s) (k:Nat):pw n s k∈allL n n:=by
 have h:=pw_gd hs k;have:=mem_allL (n:=n) (l:=pw n s k) (fun x hx=>by rw [← h.2]; exact h.1.1 x hx)
 rwa [h.2] at this
theorem pw_eq {n:Nat} {s:List Nat} (hs:Gd n s):∃ i j,i<j∧pw n s i=pw n s j:=by
 by_cases h:∃ i j,i<j∧pw n s i=pw n s j
 ·exact h
 exfalso
 have hn:((List.range ((allL n n).length+1)).map (pw n s)).Nodup:=by
  rw [List.Nodup,List.pairwise_iff_getElem];intro i j hi hj hij e;simp at e;exact h ⟨i,j,hij,e⟩
 have:=List.Nodup.length_le_of_subset hn (l₂:=allL n n) (fun x hx=>by
  obtain ⟨k,_,rfl⟩:=List.mem_map.1 hx
  exact pw_mem hs k)
 simp at this;omega
theorem inv_pw {n:Nat} {s:List Nat} (hs:Gd n s):∃ k,Ma.invN s=pw n s k:=by
 obtain ⟨i,j,hij,e⟩:=pw_eq hs;obtain ⟨k,rfl⟩:∃ k,j=i+(k+1):=⟨j - i - 1,by omega⟩;refine ⟨k,?_⟩
 have h1:pw n s (k+1)=Ma.oneN n:=by
  rw [pw_add hs] at e
  have e2:Ma.mulN (Ma.invN (pw n s i)) (pw n s i)=Ma.mulN (Ma.invN (pw n s i)) (Ma.mulN (pw n s i) (pw n s (k+1))):=by rw [← e]
  rw [inv_mul (pw_gd hs i),← mul_assoc (gd_inv (pw_gd hs i)) (pw_gd hs i),inv_mul (pw_gd hs i),one_mul (pw_gd hs (k+1))] at e2;exact e2.symm
 have h2:Ma.mulN (Ma.mulN (pw n s k) s) (Ma.invN s)=Ma.mulN (Ma.oneN n) (Ma.invN s):=by rw [← h1]; rfl
 rw [mul_cancel_inv (pw_gd hs k) hs,one_mul (gd_inv hs)] at h2;exact h2.symm
theorem gr_right {n:Nat} {gs:List Nat→Prop} (hg:∀ s,gs s→Gd n s) {P:List Nat→Prop} (hs:∀ x s,Gr n gs x→P x→gs s→P (Ma.mulN x s)) :
  ∀ {x:List Nat},Gr n gs x→∀ y,Gr n gs y→P y→P (Ma.mulN y x)∧P (Ma.mulN y (Ma.invN x)):=by
 have G:=Gr.isG (n:=n) hg;intro x hx
 induction hx with
 | one=>intro y gy hy; rw [inv_one,mul_one (G.gd y gy)]; exact ⟨hy,hy⟩
 | gen s h =>
  intro y gy hy;refine ⟨hs y s gy hy h,?_⟩;obtain ⟨k,hk⟩:=inv_pw (hg s h);rw [hk]
  have:∀ k,Gr n gs (Ma.mulN y (pw n s k))∧P (Ma.mulN y (pw n s k)):=by
   intro k
   induction k with
   | zero=>show Gr n gs (Ma.mulN y (Ma.oneN n))∧P (Ma.mulN y (Ma.oneN n)); rw [mul_one (G.gd y gy)]; exact ⟨gy,hy⟩
   | succ k ih =>
    show Gr n gs (Ma.mulN y (Ma.mulN (pw n s k) s))∧P (Ma.mulN y (Ma.mulN (pw n s k) s));rw [← mul_assoc (G.gd y gy) (pw_gd (hg s h) k)];exact ⟨.mul _ _ ih.1 (.gen s h),hs _ s ih.1 ih.2 h⟩
  exact (this k).2
 | mul a b ha hb ia ib =>
  intro y gy hy
  have e:Ma.invN (Ma.mulN a b)=Ma.mulN (Ma.invN b) (Ma.invN a):=by
   have ga:=G.gd a ha;have gb:=G.gd b hb;refine gd_ext (n:=n) (gd_inv (gd_mul ga gb)).2 (gd_mul (gd_inv gb) (gd_inv ga)).2 fun i hi=>?_;rw [ap_mul (gd_inv gb) hi];have h1:=ap_lt (gd_inv gb) hi;have h2:=ap_lt (gd_inv ga) h1;refine ap_inj (gd_mul ga gb) (ap_lt (gd_inv (gd_mul ga gb)) hi) h2 ?_;rw [ap_inv2 (gd_mul ga gb) hi,ap_mul ga h2,ap_inv2 ga h1,ap_inv2 gb hi]
  refine ⟨?_,?_⟩
  ·have:=(ib (Ma.mulN y a) (.mul _ _ gy ha) (ia y gy hy).1).1
   rwa [mul_assoc (G.gd y gy) (G.gd a ha)] at this
  ·have:=(ia (Ma.mulN y (Ma.invN b)) (.mul _ _ gy (.inv _ hb)) (ib y gy hy).2).2
   rwa [mul_assoc (G.gd y gy) (gd_inv (G.gd b hb)),← e] at this
 | inv a ha ia =>
  intro y gy hy
  have e:Ma.invN (Ma.invN a)=a:=by
   have ga:=G.gd a ha;refine gd_ext (n:=n) (gd_inv (gd_inv ga)).2 ga.2 fun i hi=>?_;refine ap_inj (gd_inv ga) (ap_lt (gd_inv (gd_inv ga)) hi) (ap_lt ga hi) ?_;rw [ap_inv2 (gd_inv ga) hi,ap_inv ga hi]
  rw [e];exact ⟨(ia y gy hy).2,(ia y gy hy).1⟩
theorem gr_ind {n:Nat} {gs:List Nat→Prop} (hg:∀ s,gs s→Gd n s) {P:List Nat→Prop} (h1:P (Ma.oneN n)) (hs:∀ x s,Gr n gs x→P x→gs s→P (Ma.mulN x s)) {x:List Nat} (hx:Gr n gs x):P x:=by
 have:=(gr_right hg hs hx _ .one h1).1
 rwa [one_mul ((Gr.isG hg).gd x hx)] at this
structure IsTr (n:Nat) (H:List Nat→Prop) (tr:Tr):Prop where
 rp:Rp n 0 tr
 mem:∀ i p u,i<n→tr i p=some u→H u
 all:∀ i x,i<n→St H i x→∃ u,tr i (ap x i)=some u
theorem Tow.clos {n lo:Nat} {gn:Nat→List Nat→Prop} {tr:Tr} (h:Tow n lo gn tr):∀ {d:Nat},d≤n→lo≤n - d→(∀ y z,Gd n y→Gd n z→Sd n tr d y→Sd n tr d z→Sd n tr d (Ma.mulN y z))∧(0<d→∀ x,Gr n (gn (n - d)) x→Sd n tr d x)
 | 0,_,_=>⟨fun y z _ gz hy hz=>by
   have hy':y=Ma.oneN n:=hy;have hz':z=Ma.oneN n:=hz;show Ma.mulN y z=Ma.oneN n
   rw [hy',hz',one_mul (gd_one n)],fun h=>by omega⟩
 | d+1,hd,hl=>by
  obtain ⟨ih,_⟩:=Tow.clos h (d:=d) (by omega) (by omega)
  have hi:n - (d+1)<n:=by omega
  have hgd:∀ s,gn (n - (d+1)) s→Gd n s:=fun s hs=>h.gd _ s hl hi hs
  have key:∀ x,Gr n (gn (n - (d+1))) x→Sd n tr (d+1) x:=by
   intro x hx;refine gr_ind hgd (P:=Sd n tr (d+1)) (Sd.one h.rp hd hl) ?_ hx;intro x s gx ⟨u,hu,hy⟩ hs;have Gx:=(Gr.isG hgd).gd x gx;have gu:=h.rp.gd _ _ _ hl hi hu;have gs:=hgd s hs;obtain ⟨v,hv,hq⟩:=h.cl _ _ _ _ hl hi hu hs;have gv:=h.rp.gd _ _ _ hl hi hv;rw [show n - (n - (d+1)+1)=d by omega] at hq;have gy:=gd_mul Gx (gd_inv gu);have gq:=gd_mul (gd_mul gu gs) (gd_inv gv);have h1:=Sd.cons h.rp hd hl (gd_mul gy gq) (ih _ _ gy gq hy hq) hv
   have e:Ma.mulN (Ma.mulN (Ma.mulN x (Ma.invN u)) (Ma.mulN (Ma.mulN u s) (Ma.invN v))) v=Ma.mulN x s:=by
    rw [mul_assoc gy gq,mul_inv_cancel (gd_mul gu gs) gv,← mul_assoc gy gu,mul_inv_cancel Gx gu]
   rwa [e] at h1
  refine ⟨fun y z gy gz hy hz=>key _ (.mul _ _ (h.gr hl hi (by omega) gy hy (Nat.le_refl _)) (h.gr hl hi (by omega) gz hz (Nat.le_refl _))),fun _=>key⟩
theorem Tow.isTr {n:Nat} {gn:Nat→List Nat→Prop} {tr:Tr} (h:Tow n 0 gn tr) (hn:0<n):IsTr n (Gr n (gn 0)) tr:=by
 have hgd:∀ s,gn 0 s→Gd n s:=fun s hs=>h.gd _ s (Nat.zero_le _) hn hs;refine ⟨h.rp,fun i p u hi hu=>?_,fun i x hi hx=>?_⟩
 ·have:=h.mem i p u (Nat.zero_le _) hi hu
  exact h.sub (i:=0) (Nat.le_refl _) (k:=i) (by omega) (by rwa [Nat.zero_add])
 ·have gx:=(Gr.isG hgd).gd x hx.1
  have h1:=(h.clos (d:=n) (Nat.le_refl _) (Nat.zero_le _)).2 hn x (by rw [Nat.sub_self]; exact hx.1);have h2:=(Sd.up h.rp (d:=n - i) (k:=i) (by omega) (Nat.zero_le _) gx (by rw [show n - (n - i)=i by omega]; exact hx.2)).1 (by rw [show n - i+i=n by omega]; exact h1);rw [show n - i=(n - i - 1)+1 by omega] at h2;obtain ⟨u,hu,_⟩:=h2;rw [show n - (n - i - 1+1)=i by omega] at hu;exact ⟨u,hu⟩
theorem Sd.entry {n:Nat} {tr:Tr} (hr:Rp n 0 tr) {i p:Nat} (hi:i<n) {u:List Nat} (hu:tr i p=some u):Sd n tr n u:=by
 have gu:=hr.gd _ _ _ (Nat.zero_le _) hi hu;have h1:Sd n tr (n - i - 1+1) (Ma.mulN (Ma.oneN n) u):=Sd.cons hr (by omega) (Nat.zero_le _) (gd_one n) (Sd.one hr (by omega) (Nat.zero_le _)) (p:=p) (by rw [show n - (n - i - 1+1)=i by omega]; exact hu);rw [one_mul gu,show n - i - 1+1=n - i by omega] at h1;have h2:=(Sd.up hr (d:=n - i) (k:=i) (by omega) (Nat.zero_le _) gu (by rw [show n - (n - i)=i by omega]; exact hr.fx _ _ _ (Nat.zero_le _) hi hu)).2 h1
 rwa [show n - i+i=n by omega] at h2
theorem tab_clos {n:Nat} {tr:Tr} (hr:Rp n 0 tr) (hc:∀ i p u j q v,i<n→j<n→tr i p=some u→tr j q=some v→Sd n tr n (Ma.mulN u v)) :
  ∀ {d:Nat},d≤n→∀ y z,Gd n y→Gd n z→Sd n tr d y→Sd n tr d z→Sd n tr d (Ma.mulN y z)
 | 0,_,y,z,_,gz,hy,hz=>by
  have hy':y=Ma.oneN n:=hy;have hz':z=Ma.oneN n:=hz;show Ma.mulN y z=Ma.oneN n;rw [hy',hz',one_mul (gd_one n)]
 | d+1,hd,y,z,gy,gz,hy,hz=>by
  have ih:=tab_clos hr hc (d:=d) (by omega)
  have R:∀ x j q b,Gd n x→Sd n tr (d+1) x→n - (d+1)≤j→j<n→tr j q=some b→Sd n tr (d+1) (Ma.mulN x b):=by
   intro x j q b gx ⟨u,hu,hx⟩ hj1 hj2 hb;have gu:=hr.gd _ _ _ (by omega) (by omega) hu;have gb:=hr.gd _ _ _ (by omega) hj2 hb;have h1:=hc _ _ _ _ _ _ (by omega) hj2 hu hb;have hf:Fx (n - (d+1)) (Ma.mulN u b):=Fx.mul gu (by omega) (hr.fx _ _ _ (by omega) (by omega) hu) ((hr.fx _ _ _ (by omega) hj2 hb).mono hj1);have h2:=(Sd.up hr (d:=d+1) (k:=n - (d+1)) (by omega) (by omega) (gd_mul gu gb) hf).1 (by rw [show d+1+(n - (d+1))=n by omega]; exact h1);obtain ⟨v,hv,hz⟩:=h2;have gv:=hr.gd _ _ _ (by omega) (by omega) hv;have gx':=gd_mul gx (gd_inv gu);have gz':=gd_mul (gd_mul gu gb) (gd_inv gv);have h3:=Sd.cons hr hd (by omega) (gd_mul gx' gz') (ih _ _ gx' gz' hx hz) hv
   have e:Ma.mulN (Ma.mulN (Ma.mulN x (Ma.invN u)) (Ma.mulN (Ma.mulN u b) (Ma.invN v))) v=Ma.mulN x b:=by
    rw [mul_assoc gx' gz',mul_inv_cancel (gd_mul gu gb) gv,← mul_assoc gx' gu,mul_inv_cancel gx gu]
   rwa [e] at h3
  have W:∀ e w,e≤d+1→Gd n w→Sd n tr e w→∀ x,Gd n x→Sd n tr (d+1) x→Sd n tr (d+1) (Ma.mulN x w):=by
   intro e
   induction e with
   | zero =>
    intro w _ gw hw x gx hx;have hw':w=Ma.oneN n:=hw;rw [hw',mul_one gx]; exact hx
   | succ e ie =>
    intro w he gw ⟨u,hu,hw⟩ x gx hx;have gu:=hr.gd _ _ _ (by omega) (by omega) hu;have gw':=gd_mul gw (gd_inv gu);have h1:=ie _ (by omega) gw' hw x gx hx;have h2:=R _ _ _ _ (gd_mul gx gw') h1 (by omega) (by omega) hu
    rwa [mul_assoc gx gw',mul_inv_cancel gw gu] at h2
  exact W _ z (Nat.le_refl _) gz hz y gy hy
theorem tab_isTr {n:Nat} {gs:List Nat→Prop} {tr:Tr} (hr:Rp n 0 tr) (hg:∀ s,gs s→Gd n s) (hs:∀ s,gs s→Sd n tr n s) (he:∀ i p u,i<n→tr i p=some u→Gr n gs u)
  (hc:∀ i p u j q v,i<n→j<n→tr i p=some u→tr j q=some v→Sd n tr n (Ma.mulN u v)):IsTr n (Gr n gs) tr:=by
 refine ⟨hr,he,fun i x hi hx=>?_⟩;have G:=Gr.isG (n:=n) hg;have gx:=G.gd x hx.1;have h1:Sd n tr n x:=gr_ind hg (P:=Sd n tr n) (Sd.one hr (Nat.le_refl _) (Nat.zero_le _)) (fun y s gy hy h=>tab_clos hr hc (Nat.le_refl _) _ _ (G.gd y gy) (hg s h) hy (hs s h)) hx.1;have h2:=(Sd.up hr (d:=n - i) (k:=i) (by omega) (Nat.zero_le _) gx (by rw [show n - (n - i)=i by omega]; exact hx.2)).1 (by rw [show n - i+i=n by omega]; exact h1);rw [show n - i=(n - i - 1)+1 by omega] at h2;obtain ⟨u,hu,_⟩:=h2;rw [show n - (n - i - 1+1)=i by omega] at hu;exact ⟨u,hu⟩
def lexLt (n:Nat) (y z:List Nat):Prop:=∃ j,j<n∧(∀ m,m<j→ap y m=ap z m)∧ap y j<ap z j
def Lst (n:Nat) (P:List Nat→Prop) (y:List Nat):Prop:=P y∧∀ z,P z→z=y∨lexLt n y z
theorem lexLt.asymm {m n:Nat} {y z:List Nat} (h:lexLt n y z) (h':lexLt m z y):False:=by
 obtain ⟨j,_,h2,h3⟩:=h;obtain ⟨k,_,h5,h6⟩:=h'
 rcases Nat.lt_trichotomy j k with e | e | e
 ·have:=h5 j e; omega
 ·subst e; omega
 ·have:=h2 k e; omega
theorem Lst.uniq {n:Nat} {P:List Nat→Prop} {y z:List Nat} (h:Lst n P y) (h':Lst n P z):y=z:=by
 rcases h.2 z h'.1 with e | e
 ·exact e.symm
 ·rcases h'.2 y h.1 with e' | e'
  ·exact e'
  ·exact (e.asymm e').elim
def LI (H:List Nat→Prop) (i k:Nat) (x y:List Nat):Prop :=
 (∃ h,St H (i+1) h∧y=Ma.mulN h x)∧∀ h,St H (i+1) h→(∀ m,m<k→ap y m=ap (Ma.mulN h x) m)∨∃ j,j<k∧(∀ m,m<j→ap y m=ap (Ma.mulN h x) m)∧ap y j<ap (Ma.mulN h x) j
theorem LI.start {n:Nat} {H:List Nat→Prop} (hH:IsG n H) {i:Nat} (hi:i<n) {x:List Nat} (gx:Gd n x):LI H i (i+1) x x:=by
 refine ⟨⟨Ma.oneN n,⟨hH.one,Fx.one (by omega)⟩,(one_mul gx).symm⟩,fun h hh=>.inl fun m hm=>?_⟩;rw [ap_mul (hH.gd h hh.1) (by omega),hh.2 m hm]
theorem LI.step {n:Nat} {H:List Nat→Prop} (hH:IsG n H) {tr:Tr} (ht:IsTr n H tr) {i k q:Nat} {x y u:List Nat} (gx:Gd n x) (hik:i<k) (hk:k<n) (h:LI H i k x y) (hu:tr k q=some u)
  (hq:∀ q',tr k q'≠none→ap y q≤ap y q'):LI H i (k+1) x (Ma.mulN u y):=by
 obtain ⟨⟨h0,hh0,rfl⟩,h2⟩:=h;have gu:=ht.rp.gd _ _ _ (Nat.zero_le _) hk hu;have fu:=ht.rp.fx _ _ _ (Nat.zero_le _) hk hu;have g0:=hH.gd h0 hh0.1;have gy:=gd_mul g0 gx
 have hlow:∀ m,m<k→ap (Ma.mulN u (Ma.mulN h0 x)) m=ap (Ma.mulN h0 x) m:=fun m hm=>by rw [ap_mul gu (by omega),fu m hm]
 refine ⟨⟨Ma.mulN u h0,⟨hH.mul _ _ (ht.mem _ _ _ hk hu) hh0.1,Fx.mul gu (by omega) (fu.mono (by omega)) hh0.2⟩,(mul_assoc gu g0).symm⟩,fun h hh=>?_⟩
 rcases h2 h hh with h3 | ⟨j,hj,h4,h5⟩
 ·have gh:=hH.gd h hh.1
  have gz:=gd_mul gh gx
  have fg:Fx k (Ma.mulN (Ma.mulN h x) (Ma.invN (Ma.mulN h0 x))):=fun m hm=>by
   rw [ap_mul gz (by omega),← h3 m hm,ap_inv gy (by omega)]
  have eg:Ma.mulN (Ma.mulN h x) (Ma.invN (Ma.mulN h0 x))=Ma.mulN h (Ma.invN h0):=by
   refine gd_ext (n:=n) (gd_mul gz (gd_inv gy)).2 (gd_mul gh (gd_inv g0)).2 fun m hm=>?_;rw [ap_mul gz hm,ap_mul gh hm,ap_mul gh hm];have h1:=ap_lt gh hm;have h2':=ap_lt (gd_inv g0) h1
   have e:ap x (ap h m)=ap (Ma.mulN h0 x) (ap (Ma.invN h0) (ap h m)):=by rw [ap_mul g0 h2',ap_inv2 g0 h1]
   rw [e,ap_inv gy h2']
  have hgH:St H k (Ma.mulN (Ma.mulN h x) (Ma.invN (Ma.mulN h0 x))):=⟨by rw [eg]; exact hH.mul _ _ hh.1 (hH.inv _ hh0.1),fg⟩;obtain ⟨v,hv⟩:=ht.all k _ hk hgH;have hle:=hq _ (by rw [hv]; simp)
  have ez:ap (Ma.mulN h0 x) (ap (Ma.mulN (Ma.mulN h x) (Ma.invN (Ma.mulN h0 x))) k)=ap (Ma.mulN h x) k:=by
   rw [ap_mul gz hk,ap_inv2 gy (ap_lt gz hk)]
  rw [ez] at hle
  have ey:ap (Ma.mulN u (Ma.mulN h0 x)) k=ap (Ma.mulN h0 x) q:=by rw [ap_mul gu hk,ht.rp.at_ _ _ _ (Nat.zero_le _) hk hu]
  rcases Nat.lt_or_eq_of_le hle with hlt | heq
  ·exact .inr ⟨k,by omega,fun m hm=>by rw [hlow m hm]; exact h3 m hm,by rw [ey]; exact hlt⟩
  ·exact .inl fun m hm=>by
    by_cases e:m=k
    ·subst e; rw [ey,heq]
    ·rw [hlow m (by omega)]; exact h3 m (by omega)
 ·exact .inr ⟨j,by omega,fun m hm=>by rw [hlow m (by omega)]; exact h4 m hm,by rw [hlow j hj]; exact h5⟩
theorem LI.done {n:Nat} {H:List Nat→Prop} (hH:IsG n H) {i:Nat} (hi:i<n) {x y:List Nat} (hx:St H i x) (h:LI H i n x y):Lst n (fun z=>St H i z∧ap z i=ap x i) y:=by
 obtain ⟨⟨h0,hh0,rfl⟩,h2⟩:=h;have gx:=hH.gd x hx.1;have g0:=hH.gd h0 hh0.1;refine ⟨⟨⟨hH.mul _ _ hh0.1 hx.1,Fx.mul g0 (by omega) (hh0.2.mono (by omega)) hx.2⟩,by rw [ap_mul g0 hi,hh0.2 i (by omega)]⟩,fun z ⟨hz,hzi⟩=>?_⟩;have gz:=hH.gd z hz.1
 have hf:Fx (i+1) (Ma.mulN z (Ma.invN x)):=fun m hm=>by
  rw [ap_mul gz (by omega)]
  by_cases e:m=i
  ·subst e; rw [hzi,ap_inv gx hi]
  ·rw [hz.2 m (by omega)]
   have:=ap_inv gx (show m<n by omega)
   rwa [hx.2 m (by omega)] at this
 have e:=mul_inv_cancel gz gx
 rcases h2 _ ⟨hH.mul _ _ hz.1 (hH.inv _ hx.1),hf⟩ with h3 | h3
 ·rw [e] at h3
  exact .inl (gd_ext (n:=n) gz.2 (gd_mul g0 gx).2 fun m hm=>(h3 m hm).symm)
 ·rw [e] at h3
  obtain ⟨j,hj,h4,h5⟩:=h3;exact .inr ⟨j,hj,h4,h5⟩
structure IsChain (n:Nat) (H:List Nat→Prop) (O:List (List Nat)) (R:List (List (List Nat))):Prop where
 lenO:O.length=n
 lenR:R.length=n
 asc:∀ i,i<n→(O.getD i []).Pairwise (· < ·)
 orb:∀ i p,i<n→(p∈O.getD i []↔∃ x,St H i x∧ap x i=p)
 len:∀ i,i<n→(R.getD i []).length=(O.getD i []).length
 rep:∀ i k,i<n→k<(O.getD i []).length→Lst n (fun z=>St H i z∧ap z i=(O.getD i []).getD k 0) ((R.getD i []).getD k [])
theorem asc_uniq:∀ {l l':List Nat},l.Pairwise (· < ·)→l'.Pairwise (· < ·)→(∀ x,x∈l↔x∈l')→l=l'
 | [],[],_,_,_=>rfl
 | [],y :: l',_,_,h=>by have:=(h y).2 (List.mem_cons_self ..); simp at this
 | x :: l,[],_,_,h=>by have:=(h x).1 (List.mem_cons_self ..); simp at this
 | x :: l,y :: l',h1,h2,h=>by
  rw [List.pairwise_cons] at h1 h2;have hx:=(h x).1 (List.mem_cons_self ..);have hy:=(h y).2 (List.mem_cons_self ..)
  have e:x=y:=by
   rcases List.mem_cons.1 hx with e | e
   ·exact e
   ·rcases List.mem_cons.1 hy with e' | e'
    ·exact e'.symm
    ·have:=h1.1 y e'; have:=h2.1 x e; omega
  subst e
  rw [asc_uniq h1.2 h2.2 fun z=>⟨fun hz=>by
   rcases List.mem_cons.1 ((h z).1 (List.mem_cons_of_mem _ hz)) with e | e
   ·subst e; have:=h1.1 z hz; omega
   ·exact e,fun hz=>by
   rcases List.mem_cons.1 ((h z).2 (List.mem_cons_of_mem _ hz)) with e | e
   ·subst e; have:=h2.1 z hz; omega
   ·exact e⟩]
theorem getD_in {α:Type} {l:List α} {i:Nat} (h:i<l.length) (d:α):l.getD i d=l[i]:=by rw [List.getD,List.getElem?_eq_getElem h]; rfl
theorem IsChain.uniq {n:Nat} {H:List Nat→Prop} {O O':List (List Nat)} {R R':List (List (List Nat))} (h:IsChain n H O R) (h':IsChain n H O' R'):O=O'∧R=R':=by
 have hO:O=O':=by
  apply List.ext_getElem (by rw [h.lenO,h'.lenO])
  intro i h1 h2
  have hi:i<n:=by rw [← h.lenO]; exact h1
  have e1:O.getD i []=O[i]:=by simp [List.getD,List.getElem?_eq_getElem h1]
  have e2:O'.getD i []=O'[i]:=by simp [List.getD,List.getElem?_eq_getElem h2]
  rw [← e1,← e2];exact asc_uniq (h.asc i hi) (h'.asc i hi) fun p=>(h.orb i p hi).trans (h'.orb i p hi).symm
 subst hO;refine ⟨rfl,?_⟩
 apply List.ext_getElem (by rw [h.lenR,h'.lenR])
 intro i h1 h2
 have hi:i<n:=by rw [← h.lenR]; exact h1
 have e1:R.getD i []=R[i]:=by simp [List.getD,List.getElem?_eq_getElem h1]
 have e2:R'.getD i []=R'[i]:=by simp [List.getD,List.getElem?_eq_getElem h2]
 rw [← e1,← e2]
 apply List.ext_getElem (by rw [h.len i hi,h'.len i hi])
 intro k k1 k2
 have hk:k<(O.getD i []).length:=by rw [← h.len i hi]; exact k1
 have f1:(R.getD i []).getD k []=(R.getD i [])[k]:=getD_in k1 _;have f2:(R'.getD i []).getD k []=(R'.getD i [])[k]:=getD_in k2 _;rw [← f1,← f2];exact (h.rep i k hi hk).uniq (h'.rep i k hi hk)

def sfP (n:Nat) (tr:Tr):Nat→List Nat→Nat × List Nat
 | 0,x=>(n,x)
 | d+1,x=>match tr (n - (d+1)) (ap x (n - (d+1))) with
  | none=>(n - (d+1),x)
  | some u=>sfP n tr d (Ma.mulN x (Ma.invN u))
theorem sfP_none {n:Nat} {tr:Tr} {d:Nat} {x:List Nat} (h:tr (n - (d+1)) (ap x (n - (d+1)))=none):sfP n tr (d+1) x=(n - (d+1),x):=by
 unfold sfP; rw [h]
theorem sfP_some {n:Nat} {tr:Tr} {d:Nat} {x u:List Nat} (h:tr (n - (d+1)) (ap x (n - (d+1)))=some u):sfP n tr (d+1) x=sfP n tr d (Ma.mulN x (Ma.invN u)):=by
 conv=>lhs; unfold sfP
 rw [h]
theorem step_fx {n lo:Nat} {tr:Tr} (hr:Rp n lo tr) {i:Nat} (hl:lo≤i) (hi:i<n) {x u:List Nat} (gx:Gd n x) (fx:Fx i x) (hu:tr i (ap x i)=some u):Gd n (Ma.mulN x (Ma.invN u))∧Fx (i+1) (Ma.mulN x (Ma.invN u)):=by
 have gu:=hr.gd _ _ _ hl hi hu;have fu:=hr.fx _ _ _ hl hi hu;have au:=hr.at_ _ _ _ hl hi hu;refine ⟨gd_mul gx (gd_inv gu),fun j hj=>?_⟩;rw [ap_mul gx (by omega)]
 by_cases e:j=i
 ·subst e; rw [← au]; exact ap_inv gu hi
 ·rw [fx j (by omega)]
  exact Fx.inv gu (by omega) fu j (by omega)
theorem sfP_all {n lo:Nat} {tr:Tr} (hr:Rp n lo tr):∀ {d:Nat} {x:List Nat},d≤n→lo≤n - d→Gd n x→Fx (n - d) x →
  (sfP n tr d x).1≤n∧n - d≤(sfP n tr d x).1∧Gd n (sfP n tr d x).2∧Fx (sfP n tr d x).1 (sfP n tr d x).2∧((sfP n tr d x).1<n→tr (sfP n tr d x).1 (ap (sfP n tr d x).2 (sfP n tr d x).1)=none)
 | 0,x,_,_,gx,fx=>⟨Nat.le_refl _,by show n - 0≤n; omega,gx,fx,fun h=>absurd h (Nat.lt_irrefl _)⟩
 | d+1,x,hd,hl,gx,fx=>by
  cases h:tr (n - (d+1)) (ap x (n - (d+1))) with
  | none =>
   rw [sfP_none h];exact ⟨by show n - (d+1)≤n; omega,Nat.le_refl _,gx,fx,fun _=>h⟩
  | some u =>
   rw [sfP_some h];obtain ⟨g1,f1⟩:=step_fx hr hl (by omega) gx fx h;rw [show n - (d+1)+1=n - d by omega] at f1;obtain ⟨a,b,c⟩:=sfP_all hr (d:=d) (by omega) (by omega) g1 f1;exact ⟨a,by omega,c⟩
theorem sfP_back {n:Nat} {tr tr':Tr}:∀ {d:Nat} {x:List Nat},d≤n→(∀ i p u,n - d≤i→tr i p=some u→tr' i p=some u)→Sd n tr' (n - (sfP n tr d x).1) (sfP n tr d x).2→Sd n tr' d x
 | 0,x,_,_,h=>by
  have:Sd n tr' (n - n) x:=h
  rwa [Nat.sub_self] at this
 | d+1,x,hd,hm,hs=>by
  cases h:tr (n - (d+1)) (ap x (n - (d+1))) with
  | none =>
   rw [sfP_none h] at hs;have:Sd n tr' (n - (n - (d+1))) x:=hs
   rwa [show n - (n - (d+1))=d+1 by omega] at this
  | some u =>
   rw [sfP_some h] at hs;exact ⟨u,hm _ _ _ (Nat.le_refl _) h,sfP_back (by omega) (fun i p u hi=>hm i p u (by omega)) hs⟩
theorem sfP_mem {n:Nat} {tr:Tr} {H:List Nat→Prop} (hH:IsG n H):∀ {d:Nat} {x:List Nat},d≤n→(∀ i p u,n - d≤i→i<n→tr i p=some u→H u)→H x→H (sfP n tr d x).2
 | 0,_,_,_,h=>h
 | d+1,x,hd,hm,hx=>by
  cases h:tr (n - (d+1)) (ap x (n - (d+1))) with
  | none=>rw [sfP_none h]; exact hx
  | some u =>
   rw [sfP_some h];exact sfP_mem hH (by omega) (fun i p u hi=>hm i p u (by omega)) (hH.mul _ _ hx (hH.inv _ (hm _ _ _ (Nat.le_refl _) (by omega) h)))
structure Lv where
 gens:List (List Nat)
 orb:List Nat
 rep:Nat→Option (List Nat)
 tried:Nat→Nat
abbrev Twr:=Nat→Lv
def trOf (T:Twr):Tr:=fun i p=>(T i).rep p
structure Lvl (n:Nat) (T:Twr) (i:Nat):Prop where
 ggd:∀ s∈(T i).gens,Gd n s
 gfx:∀ s∈(T i).gens,Fx i s
 low:i+1<n→∀ s∈(T (i+1)).gens,Gr n (·∈(T i).gens) s
 self:(T i).rep i=some (Ma.oneN n)
 tgd:∀ p u,(T i).rep p=some u→Gd n u
 tfx:∀ p u,(T i).rep p=some u→Fx i u
 tat:∀ p u,(T i).rep p=some u→ap u i=p
 tlt:∀ p u,(T i).rep p=some u→p<n
 tgr:∀ p u,(T i).rep p=some u→Gr n (·∈(T i).gens) u
 nd:(T i).orb.Nodup
 orb:∀ p,p∈(T i).orb↔∃ u,(T i).rep p=some u
 le:∀ q,(T i).tried q≤(T i).gens.length
 tr0:∀ p,(T i).rep p=none→(T i).tried p=0
 pr:∀ q u k (hk:k<(T i).gens.length),(T i).rep q=some u→k<(T i).tried q→∃ v,(T i).rep (ap (T i).gens[k] q)=some v∧Sd n (trOf T) (n - (i+1)) (Ma.mulN (Ma.mulN u (T i).gens[k]) (Ma.invN v))
def Cmp (T:Twr) (i:Nat):Prop:=∀ q u,(T i).rep q=some u→(T i).tried q=(T i).gens.length
theorem Lvl.rp {n lo:Nat} {T:Twr} (h:∀ j,lo≤j→j<n→Lvl n T j):Rp n lo (trOf T) :=
 ⟨fun i p u hl hi hu=>(h i hl hi).tgd p u hu,fun i p u hl hi hu=>(h i hl hi).tfx p u hu,fun i p u hl hi hu=>(h i hl hi).tat p u hu,fun i hl hi=>(h i hl hi).self⟩
theorem Lvl.tow {n lo:Nat} {T:Twr} (h:∀ j,lo≤j→j<n→Lvl n T j∧Cmp T j):Tow n lo (fun i s=>s∈(T i).gens) (trOf T):=by
 refine ⟨Lvl.rp fun j a b=>(h j a b).1,fun i s a b=>(h i a b).1.ggd s,fun i s a b=>(h i a (by omega)).1.low b s,fun i p u a b hu=>(h i a b).1.tgr p u hu,fun i p u s a b hu hs=>?_⟩;obtain ⟨k,hk,rfl⟩:=List.getElem_of_mem hs;exact (h i a b).1.pr p u k hk hu (by rw [(h i a b).2 p u hu]; exact hk)
theorem Lvl.sd {n lo:Nat} {T:Twr} (h:∀ j,lo≤j→j<n→Lvl n T j∧Cmp T j) (hl:lo<n) {x:List Nat} (hx:Gr n (·∈(T lo).gens) x):Sd n (trOf T) (n - lo) x:=by
 have:=((Lvl.tow h).clos (d:=n - lo) (by omega) (by omega)).2 (by omega) x;rw [show n - (n - lo)=lo by omega] at this;exact this hx
structure Ext (T T':Twr):Prop where
 rep:∀ j p u,(T j).rep p=some u→(T' j).rep p=some u
 orb:∀ j,(T j).orb.length≤(T' j).orb.length
 gens:∀ j s,s∈(T j).gens→s∈(T' j).gens
theorem Ext.refl (T:Twr):Ext T T:=⟨fun _ _ _ h=>h,fun _=>Nat.le_refl _,fun _ _ h=>h⟩
theorem Ext.trans {T T' T'':Twr} (h:Ext T T') (h':Ext T' T''):Ext T T'':=⟨fun j p u e=>h'.rep j p u (h.rep j p u e),fun j=>Nat.le_trans (h.orb j) (h'.orb j),fun j s e=>h'.gens j s (h.gens j s e)⟩
theorem Lvl.ext0 {n i:Nat} {T T':Twr} (h:Lvl n T i) (he:T' i=T i) (hx:∀ j p u,(T j).rep p=some u→(T' j).rep p=some u) (hlow:i+1<n→∀ s∈(T' (i+1)).gens,Gr n (·∈(T i).gens) s):Lvl n T' i:=by
 refine ⟨by rw [he]; exact h.ggd,by rw [he]; exact h.gfx,by rw [he]; exact hlow,by rw [he]; exact h.self,by rw [he]; exact h.tgd,by rw [he]; exact h.tfx,by rw [he]; exact h.tat,by rw [he]; exact h.tlt,by rw [he]; exact h.tgr,by rw [he]; exact h.nd,by rw [he]; exact h.orb,by rw [he]; exact h.le,by rw [he]; exact h.tr0,?_⟩;simp only [he];intro q u k hk hu hq;obtain ⟨v,h1,h2⟩:=h.pr q u k hk hu hq;exact ⟨v,h1,Sd.mono (fun j p u _ e=>hx j p u e) h2⟩
theorem Lvl.ext {n i:Nat} {T T':Twr} (h:Lvl n T i) (he:T' i=T i) (hx:Ext T T') (hlow:i+1<n→∀ s∈(T' (i+1)).gens,Gr n (·∈(T i).gens) s):Lvl n T' i:=h.ext0 he hx.rep hlow
theorem Cmp.ext {i:Nat} {T T':Twr} (h:Cmp T i) (he:T' i=T i):Cmp T' i:=by
 unfold Cmp at *; rw [he]; exact h
def potd (n:Nat) (T:Twr):Nat→Nat
 | 0=>0
 | d+1=>(T (n - (d+1))).orb.length+potd n T d
def pot (n:Nat) (T:Twr) (i:Nat):Nat:=potd n T (n - i)
theorem potd_mono {n:Nat} {T T':Twr} (h:Ext T T'):∀ d,potd n T d≤potd n T' d
 | 0=>Nat.le_refl _
 | d+1=>Nat.add_le_add (h.orb _) (potd_mono h d)
theorem potd_more {n:Nat} {T T':Twr} (h:Ext T T') {i:Nat} (hi:i<n) (hlt:(T i).orb.length<(T' i).orb.length):∀ d,d≤n→n - i≤d→potd n T d<potd n T' d
 | 0,_,hd=>by omega
 | d+1,hdn,hd=>by
  by_cases e:n - i=d+1
  ·have:n - (d+1)=i:=by omega
   show (T (n - (d+1))).orb.length+potd n T d<(T' (n - (d+1))).orb.length+potd n T' d;rw [this];exact Nat.add_lt_add_of_lt_of_le hlt (potd_mono h d)
  ·exact Nat.add_lt_add_of_le_of_lt (h.orb _) (potd_more h hi hlt d (by omega) (by omega))
theorem pot_mono {n:Nat} {T T':Twr} (h:Ext T T') (i:Nat):pot n T i≤pot n T' i:=potd_mono h _
theorem pot_more {n:Nat} {T T':Twr} (h:Ext T T') {i j:Nat} (hi:i<n) (hj:j≤i) (hlt:(T i).orb.length<(T' i).orb.length):pot n T j<pot n T' j:=potd_more h hi hlt _ (by omega) (by omega)
theorem orb_len {n i:Nat} {T:Twr} (h:Lvl n T i):(T i).orb.length≤n:=by
 have h1:(T i).orb ⊆ List.range n:=fun p hp=>by
  obtain ⟨u,hu⟩:=(h.orb p).1 hp;exact List.mem_range.2 (h.tlt p u hu)
 have:=List.Nodup.length_le_of_subset h.nd h1
 rwa [List.length_range] at this
theorem potd_le {n lo:Nat} {T:Twr} (h:∀ j,lo≤j→j<n→Lvl n T j):∀ d,d≤n→lo≤n - d→potd n T d≤d*n
 | 0,_,_=>by simp [potd]
 | d+1,hd,hl=>by
  have h1:=orb_len (h (n - (d+1)) hl (by omega));have h2:=potd_le h d (by omega) (by omega);show _+_≤_;rw [Nat.succ_mul]; omega
theorem pot_le {n lo:Nat} {T:Twr} (h:∀ j,lo≤j→j<n→Lvl n T j) {i:Nat} (hi:lo≤i) (hn:n≤64):pot n T i≤4096:=by
 by_cases hin:i≤n
 ·have h1:=potd_le h (n - i) (by omega) (by omega)
  have h2:(n - i)*n≤64*64:=Nat.mul_le_mul (by omega) hn;unfold pot; omega
 ·unfold pot; rw [show n - i=0 by omega]; simp [potd]
def putG (T:Twr) (lo hi:Nat) (r:List Nat):Twr:=fun j=>if lo≤j∧j≤hi then { T j with gens:=(T j).gens++[r] } else T j
theorem putG_in {T:Twr} {lo hi:Nat} {r:List Nat} {j:Nat} (h:lo≤j∧j≤hi):putG T lo hi r j={ T j with gens:=(T j).gens++[r] }:=if_pos h
theorem putG_out {T:Twr} {lo hi:Nat} {r:List Nat} {j:Nat} (h:¬ (lo≤j∧j≤hi)):putG T lo hi r j=T j:=if_neg h
theorem putG_to (T:Twr) (lo hi:Nat) (r:List Nat):trOf (putG T lo hi r)=trOf T:=by
 funext j p
 unfold trOf
 by_cases h:lo≤j∧j≤hi
 ·rw [putG_in h]
 ·rw [putG_out h]
theorem putG_orb (T:Twr) (lo hi:Nat) (r:List Nat) (j:Nat):(putG T lo hi r j).orb=(T j).orb:=by
 by_cases h:lo≤j∧j≤hi
 ·rw [putG_in h]
 ·rw [putG_out h]
theorem putG_ext (T:Twr) (lo hi:Nat) (r:List Nat):Ext T (putG T lo hi r) :=
 ⟨fun j p u h=>(show trOf (putG T lo hi r) j p=some u by rw [putG_to]; exact h),fun j=>by rw [putG_orb]; exact Nat.le_refl _,fun j s hs=>by
  by_cases h:lo≤j∧j≤hi
  ·rw [putG_in h]; exact List.mem_append_left _ hs
  ·rw [putG_out h]; exact hs⟩
theorem putG_lvl {n lo hi i:Nat} {T:Twr} {r:List Nat} (h:Lvl n T i) (hl:lo≤i) (hr:Gd n r) (hf:Fx hi r):Lvl n (putG T lo hi r) i:=by
 have hto:=fun p=>congrFun (congrFun (putG_to T lo hi r) i) p;have hto':∀ p,(putG T lo hi r i).rep p=(T i).rep p:=hto
 by_cases hi2:i≤hi
 ·have e:=putG_in (T:=T) (r:=r) ⟨hl,hi2⟩
  have hg:∀ s,s∈(T i).gens→s∈(putG T lo hi r i).gens:=fun s hs=>by rw [e]; exact List.mem_append_left _ hs
  have hm:∀ s,s∈(putG T lo hi r i).gens→s∈(T i).gens∨s=r:=fun s hs=>by
   rw [e] at hs
   rcases List.mem_append.1 hs with hs | hs
   ·exact .inl hs
   ·exact .inr (List.mem_singleton.1 hs)
  have hrm:r∈(putG T lo hi r i).gens:=by rw [e]; exact List.mem_append_right _ (List.mem_singleton.2 rfl)
  refine ⟨fun s hs=>?_,fun s hs=>?_,fun h1 s hs=>?_,by rw [hto']; exact h.self,fun p u hu=>h.tgd p u (by rwa [hto'] at hu),fun p u hu=>h.tfx p u (by rwa [hto'] at hu),fun p u hu=>h.tat p u (by rwa [hto'] at hu),fun p u hu=>h.tlt p u (by rwa [hto'] at hu),
   fun p u hu=>(h.tgr p u (by rwa [hto'] at hu)).mono hg,by rw [putG_orb]; exact h.nd,fun p=>by rw [putG_orb,hto']; exact h.orb p,fun q=>?_,fun p hp=>by rw [hto'] at hp; rw [e]; exact h.tr0 p hp,?_⟩
  ·rcases hm s hs with hs | rfl
   ·exact h.ggd s hs
   ·exact hr
  ·rcases hm s hs with hs | rfl
   ·exact h.gfx s hs
   ·exact hf.mono hi2
  ·by_cases h2:i+1≤hi
   ·rw [putG_in ⟨by omega,h2⟩] at hs
    rcases List.mem_append.1 hs with hs | hs
    ·exact (h.low h1 s hs).mono hg
    ·rw [List.mem_singleton] at hs; subst hs; exact .gen _ hrm
   ·rw [putG_out (by omega)] at hs
    exact (h.low h1 s hs).mono hg
  ·have:=h.le q
   rw [e]; simp; omega
  ·intro q u k hk hu hq
   rw [hto'] at hu
   have hq':k<(T i).tried q:=by rw [e] at hq; exact hq
   have hk':k<(T i).gens.length:=Nat.lt_of_lt_of_le hq' (h.le q)
   have eg:(putG T lo hi r i).gens[k]=(T i).gens[k]:=by simp only [e]; rw [List.getElem_append_left hk']
   obtain ⟨v,h1,h2⟩:=h.pr q u k hk' hu hq';rw [eg];exact ⟨v,by rw [hto']; exact h1,by rw [putG_to]; exact h2⟩
 ·exact h.ext (putG_out (by omega)) (putG_ext T lo hi r) fun h1 s hs=>by
   rw [putG_out (by omega)] at hs; exact h.low h1 s hs
def tick (T:Twr) (i q:Nat):Twr:=fun j=>if j=i then { T j with tried:=fun p=>if p=q then (T j).tried p+1 else (T j).tried p } else T j
def find (T:Twr) (i p:Nat) (y:List Nat):Twr:=fun j=>if j=i then { T j with orb:=(T j).orb++[p],rep:=fun z=>if z=p then some y else (T j).rep z } else T j
theorem tick_at (T:Twr) (i q:Nat):tick T i q i={ T i with tried:=fun p=>if p=q then (T i).tried p+1 else (T i).tried p }:=if_pos rfl
theorem tick_ne {T:Twr} {i q j:Nat} (h:j≠i):tick T i q j=T j:=if_neg h
theorem find_at' (T:Twr) (i p:Nat) (y:List Nat):find T i p y i={ T i with orb:=(T i).orb++[p],rep:=fun z=>if z=p then some y else (T i).rep z }:=if_pos rfl
theorem find_ne {T:Twr} {i p j:Nat} {y:List Nat} (h:j≠i):find T i p y j=T j:=if_neg h
theorem tick_ext (T:Twr) (i q:Nat):Ext T (tick T i q) :=
 ⟨fun j p u h=>by
  by_cases e:j=i
  ·subst e; rw [tick_at]; exact h
  ·rw [tick_ne e]; exact h,fun j=>by
  by_cases e:j=i
  ·subst e; rw [tick_at]; exact Nat.le_refl _
  ·rw [tick_ne e]; exact Nat.le_refl _,fun j s hs=>by
  by_cases e:j=i
  ·subst e; rw [tick_at]; exact hs
  ·rw [tick_ne e]; exact hs⟩
theorem find_ext {T:Twr} {i p:Nat} {y:List Nat} (hp:(T i).rep p=none):Ext T (find T i p y) :=
 ⟨fun j z u h=>by
  by_cases e:j=i
  ·subst e
   rw [find_at'];show (if z=p then some y else (T j).rep z)=some u;rw [if_neg,h];rintro rfl; rw [hp] at h; cases h
  ·rw [find_ne e]; exact h,fun j=>by
  by_cases e:j=i
  ·subst e; rw [find_at']; simp
  ·rw [find_ne e]; exact Nat.le_refl _,fun j s hs=>by
  by_cases e:j=i
  ·subst e; rw [find_at']; exact hs
  ·rw [find_ne e]; exact hs⟩
theorem tick_lvl {n i q:Nat} {T T':Twr} (h:Lvl n T i) {s uq v:List Nat} (hk:(T i).tried q<(T i).gens.length) (hs:(T i).gens[(T i).tried q]=s) (huq:(T i).rep q=some uq)
  (hi:T' i=tick T i q i) (hx:Ext T T') (hlow:i+1<n→∀ s∈(T' (i+1)).gens,Gr n (·∈(T i).gens) s) (hv:(T i).rep (ap s q)=some v) (hsd:Sd n (trOf T') (n - (i+1)) (Ma.mulN (Ma.mulN uq s) (Ma.invN v))):Lvl n T' i:=by
 rw [tick_at] at hi;refine ⟨by rw [hi]; exact h.ggd,by rw [hi]; exact h.gfx,by rw [hi]; exact hlow,by rw [hi]; exact h.self,by rw [hi]; exact h.tgd,by rw [hi]; exact h.tfx,by rw [hi]; exact h.tat,by rw [hi]; exact h.tlt,by rw [hi]; exact h.tgr,by rw [hi]; exact h.nd,by rw [hi]; exact h.orb,?_,?_,?_⟩
 ·rw [hi]
  intro p;show (if p=q then (T i).tried p+1 else (T i).tried p)≤(T i).gens.length
  split
  ·rename_i e; subst e; omega
  ·exact h.le p
 ·rw [hi]
  intro p hp;show (if p=q then (T i).tried p+1 else (T i).tried p)=0;rw [if_neg]
  ·exact h.tr0 p hp
  ·rintro rfl
   have hp':(T i).rep p=none:=hp;rw [huq] at hp'; cases hp'
 ·simp only [hi]
  intro p u k hk2 hu hp
  by_cases e:p=q
  ·subst e
   rw [if_pos rfl] at hp
   by_cases e2:k=(T i).tried p
   ·subst e2
    rw [huq] at hu; cases hu;rw [hs]; exact ⟨v,hv,hsd⟩
   ·obtain ⟨v2,h1,h2⟩:=h.pr p u k hk2 hu (by omega)
    exact ⟨v2,h1,Sd.mono (fun j p u _ e=>hx.rep j p u e) h2⟩
  ·rw [if_neg e] at hp
   obtain ⟨v2,h1,h2⟩:=h.pr p u k hk2 hu hp;exact ⟨v2,h1,Sd.mono (fun j p u _ e=>hx.rep j p u e) h2⟩
theorem find_lvl {n i q:Nat} {T:Twr} (h:∀ j,i≤j→j<n→Lvl n T j) (hin:i<n) {s uq:List Nat} (hk:(T i).tried q<(T i).gens.length) (hs:(T i).gens[(T i).tried q]=s) (huq:(T i).rep q=some uq) (hp:(T i).rep (ap s q)=none) :
  Lvl n (find (tick T i q) i (ap s q) (Ma.mulN uq s)) i:=by
 have hl:=h i (Nat.le_refl _) hin
 have hsm:s∈(T i).gens:=by rw [← hs]; exact List.getElem_mem hk
 have gs:=hl.ggd s hsm;have gu:=hl.tgd q uq huq;have hq:=hl.tlt q uq huq;have gy:=gd_mul gu gs;have hx:Ext T (find (tick T i q) i (ap s q) (Ma.mulN uq s)):=(tick_ext T i q).trans (find_ext (by rw [tick_at]; exact hp))
 have ei:find (tick T i q) i (ap s q) (Ma.mulN uq s) i={ gens:=(T i).gens,orb:=(T i).orb++[ap s q],rep:=fun z=>if z=ap s q then some (Ma.mulN uq s) else (T i).rep z,tried:=fun p=>if p=q then (T i).tried p+1 else (T i).tried p }:=by rw [find_at',tick_at]
 have ay:ap (Ma.mulN uq s) i=ap s q:=by rw [ap_mul gu hin,hl.tat q uq huq]
 have fy:Fx i (Ma.mulN uq s):=Fx.mul gu (by omega) (hl.tfx q uq huq) (hl.gfx s hsm);refine ⟨by rw [ei]; exact hl.ggd,by rw [ei]; exact hl.gfx,?_,?_,?_,?_,?_,?_,?_,?_,?_,?_,?_,?_⟩
 ·rw [ei]
  intro h1 z hz;rw [find_ne (by omega),tick_ne (by omega)] at hz;exact hl.low h1 z hz
 ·rw [ei]
  show (if i=ap s q then _ else _)=_;rw [if_neg,hl.self];intro e; rw [← e,hl.self] at hp; cases hp
 ·rw [ei]
  intro p u hu;have hu':(if p=ap s q then some (Ma.mulN uq s) else (T i).rep p)=some u:=hu
  split at hu'
  ·cases hu'; exact gy
  ·exact hl.tgd p u hu'
 ·rw [ei]
  intro p u hu;have hu':(if p=ap s q then some (Ma.mulN uq s) else (T i).rep p)=some u:=hu
  split at hu'
  ·cases hu'; exact fy
  ·exact hl.tfx p u hu'
 ·rw [ei]
  intro p u hu;have hu':(if p=ap s q then some (Ma.mulN uq s) else (T i).rep p)=some u:=hu
  split at hu'
  ·rename_i e; cases hu'; rw [e]; exact ay
  ·exact hl.tat p u hu'
 ·rw [ei]
  intro p u hu;have hu':(if p=ap s q then some (Ma.mulN uq s) else (T i).rep p)=some u:=hu
  split at hu'
  ·rename_i e; rw [e]; exact ap_lt gs hq
  ·exact hl.tlt p u hu'
 ·rw [ei]
  intro p u hu;have hu':(if p=ap s q then some (Ma.mulN uq s) else (T i).rep p)=some u:=hu
  split at hu'
  ·cases hu'; exact .mul _ _ (hl.tgr q uq huq) (.gen _ hsm)
  ·exact hl.tgr p u hu'
 ·rw [ei]
  show ((T i).orb++[ap s q]).Nodup;rw [List.nodup_append];refine ⟨hl.nd,by simp,?_⟩;intro a ha b hb e;rw [List.mem_singleton] at hb;subst hb; subst e;obtain ⟨u,hu⟩:=(hl.orb _).1 ha;rw [hp] at hu; cases hu
 ·rw [ei]
  intro p;show p∈(T i).orb++[ap s q]↔∃ u,(if p=ap s q then some (Ma.mulN uq s) else (T i).rep p)=some u;rw [List.mem_append,List.mem_singleton]
  by_cases e:p=ap s q
  ·rw [if_pos e]; exact ⟨fun _=>⟨_,rfl⟩,fun _=>.inr e⟩
  ·rw [if_neg e,← hl.orb p]; exact ⟨fun h=>h.resolve_right e,.inl⟩
 ·rw [ei]
  intro p;show (if p=q then (T i).tried p+1 else (T i).tried p)≤(T i).gens.length
  split
  ·rename_i e; subst e; omega
  ·exact hl.le p
 ·rw [ei]
  intro p hp2;have hp3:(if p=ap s q then some (Ma.mulN uq s) else (T i).rep p)=none:=hp2;show (if p=q then (T i).tried p+1 else (T i).tried p)=0
  split at hp3
  ·cases hp3
  ·rw [if_neg]
   ·exact hl.tr0 p hp3
   ·rintro rfl; rw [huq] at hp3; cases hp3
 ·intro p u k hk0 hu hpk
  have hk2:k<(T i).gens.length:=by rw [ei] at hk0; exact hk0
  simp only [ei] at hu hpk ⊢
  have hto:∀ z v,(T i).rep z=some v→(if z=ap s q then some (Ma.mulN uq s) else (T i).rep z)=some v:=fun z v hz=>by
   rw [if_neg,hz];rintro rfl; rw [hp] at hz; cases hz
  have hold:∀ p u k (hk2:k<(T i).gens.length),(T i).rep p=some u→k<(T i).tried p→∃ v,(if ap (T i).gens[k] p=ap s q then some (Ma.mulN uq s) else (T i).rep (ap (T i).gens[k] p))=some v∧Sd n (trOf (find (tick T i q) i (ap s q) (Ma.mulN uq s))) (n - (i+1)) (Ma.mulN (Ma.mulN u (T i).gens[k]) (Ma.invN v)):=fun p u k hk2 hu hpk=>by
   obtain ⟨v,h1,h2⟩:=hl.pr p u k hk2 hu hpk;exact ⟨v,hto _ _ h1,Sd.mono (fun j p u _ e=>hx.rep j p u e) h2⟩
  by_cases e:p=ap s q
  ·
   rw [if_pos e] at hu
   exfalso
   by_cases e2:p=q
   ·rw [← e2,e,hp] at huq; cases huq
   ·rw [if_neg e2] at hpk
    have:=hl.tr0 p (by rw [e]; exact hp);omega
  ·rw [if_neg e] at hu
   by_cases e2:p=q
   ·subst e2
    rw [if_pos rfl] at hpk
    by_cases e3:k=(T i).tried p
    ·subst e3
     rw [huq] at hu; cases hu;rw [hs,if_pos rfl];refine ⟨_,rfl,?_⟩;rw [mul_inv gy];have hr:Rp n (i+1) (trOf T):=Lvl.rp fun j a b=>h j (by omega) b;exact Sd.mono (fun j p u _ e=>hx.rep j p u e) (Sd.one hr (by omega) (by omega))
    ·exact hold p u k hk2 hu (by omega)
   ·rw [if_neg e2] at hpk
    exact hold p u k hk2 hu hpk
end Go.Proofs.Cm

namespace Go.Proofs.YthehbckogieimaaGreat
open Go.RowKit
open Go.Proofs
attribute [local irreducible] Go.Calls
theorem exec_fn5 {o:Oper} {a:Act} {w:World} {u1 u2 u3 u4 u5:Value} (F:FuncId) (x y z t s:Operand) (tys:Array TypeId) (ho:o.op=.call { callee:=.value (.func F),args:=#[x,y,z,t,s],argTypes:=tys }) (hx:a.eval x=u1) (hy:a.eval y=u2) (hz:a.eval z=u3) (ht:a.eval t=u4) (hs:a.eval s=u5)
  (hF:(callFunc F #[u1,u2,u3,u4,u5]).run Tryz.prog w=.ok (.enter F #[u1,u2,u3,u4,u5]) w):(execOp a.eval o).run Tryz.prog w=.ok (.enter F #[u1,u2,u3,u4,u5]) w:=by
 unfold execOp;have hf:a.eval (.func F)=.func (.func F) #[] #[]:=rfl;simp [ho,hx,hy,hz,ht,hs,hf,resolve,invoke,Deferred.ofValue,hF]
theorem b_lss {w:World} {u v:Int} {b:Bool} (t:TypeId) (h:decide (u<v)=b):(binOp .lss t (.int .i64 u) (.int .i64 v)).run Tryz.prog w=.ok (.bool b) w:=by
 subst h;simp [binOp,Op.intCmp]
theorem b_leq {w:World} {u v:Int} {b:Bool} (t:TypeId) (h:decide (u≤v)=b):(binOp .leq t (.int .i64 u) (.int .i64 v)).run Tryz.prog w=.ok (.bool b) w:=by
 subst h;simp [binOp,Op.intCmp]
theorem b_geq {w:World} {u v:Int} {b:Bool} (t:TypeId) (h:decide (v≤u)=b):(binOp .geq t (.int .i64 u) (.int .i64 v)).run Tryz.prog w=.ok (.bool b) w:=by
 subst h;simp [binOp,Op.intCmp]
theorem b_neqB {w:World} {u v:Int} {b:Bool} (t:TypeId) (h:decide (u≠v)=b):(binOp .neq t (.int .i64 u) (.int .i64 v)).run Tryz.prog w=.ok (.bool b) w:=by
 subst h
 by_cases e:u=v <;> simp [binOp,Op.intCmp,e]
def Cel (w:World) (b o:Nat) (v:Value):Prop:=w.cell? ⟨b,o,none⟩=some v∧b<w.heap.size
theorem Cel.below {w w':World} {b o:Nat} {v:Value} (h:Cel w b o v) (hb:Below w.heap.size w w'):Cel w' b o v :=
 ⟨(hb.cell (p:=⟨b,o,none⟩) h.2).trans h.1,Nat.lt_of_lt_of_le h.2 hb.size⟩
theorem Cel.new (w:World) (cs:Array Value) (t:TypeId) (j:Nat) {v:Value} (h:cs[j]?=some v):Cel (w.alloc (.cells cs t)) w.heap.size j v:=⟨by rw [Rg.cellNew]; exact h,by simp⟩
def GI (w:World) (b:Nat) (d:Int) (a:Option Addr) (ll:List (List Int)) (c:Nat):Prop :=
 w.cell? ⟨b,0,none⟩=some (.int .i64 d)∧w.cell? ⟨b,1,none⟩=some (.slice a ll.length c)∧Rg.Rows w (.slice a ll.length c) ll∧b<w.heap.size
theorem GI.c0 {w:World} {b:Nat} {d:Int} {a:Option Addr} {ll:List (List Int)} {c:Nat} (h:GI w b d a ll c):w.cell? ⟨b,0,none⟩=some (.int .i64 d):=h.1
theorem GI.c1 {w:World} {b:Nat} {d:Int} {a:Option Addr} {ll:List (List Int)} {c:Nat} (h:GI w b d a ll c):w.cell? ⟨b,1,none⟩=some (.slice a ll.length c):=h.2.1
theorem GI.rows {w:World} {b:Nat} {d:Int} {a:Option Addr} {ll:List (List Int)} {c:Nat} (h:GI w b d a ll c):Rg.Rows w (.slice a ll.length c) ll:=h.2.2.1
theorem GI.lt {w:World} {b:Nat} {d:Int} {a:Option Addr} {ll:List (List Int)} {c:Nat} (h:GI w b d a ll c):b<w.heap.size:=h.2.2.2
theorem GI.below {w w':World} {b:Nat} {d:Int} {a:Option Addr} {ll:List (List Int)} {c:Nat} (h:GI w b d a ll c) (hb:Below w.heap.size w w'):GI w' b d a ll c :=
 ⟨(hb.cell (p:=⟨b,0,none⟩) h.lt).trans h.c0,(hb.cell (p:=⟨b,1,none⟩) h.lt).trans h.c1,Rg.Rows.below h.rows hb,Nat.lt_of_lt_of_le h.lt hb.size⟩
theorem GI.new {w:World} {d:Int} {a:Option Addr} {ll:List (List Int)} {c:Nat} (h:Rg.Rows w (.slice a ll.length c) ll):GI (w.alloc (.cells #[.int .i64 d,.slice a ll.length c] 24)) w.heap.size d a ll c :=
 ⟨by rw [Rg.cellNew]; rfl,by rw [Rg.cellNew]; rfl,Rg.Rows.below h ((Below.refl _ _).alloc (Nat.le_refl _) _),by simp⟩
theorem GI.enter {w:World} {gv:Value} (d:Int) {ll:List (List Int)} (h:Rg.Rows w gv ll):∃ a c,gv=.slice a ll.length c∧GI (w.alloc (.cells #[.int .i64 d,.slice a ll.length c] 24)) w.heap.size d a ll c∧Below w.heap.size w (w.alloc (.cells #[.int .i64 d,.slice a ll.length c] 24)):=by
 obtain ⟨a,c,rfl,_⟩:=h.shape;exact ⟨a,c,rfl,GI.new h,(Below.refl _ _).alloc (Nat.le_refl _) _⟩
end Go.Proofs.YthehbckogieimaaGreat

namespace Go.Proofs.YthehbckogieimaaGreat
open Go.RowKit
open Go.Proofs
open Go.Proofs.Ob
attribute [local irreducible] Go.Calls
def PR (B:Nat) (w:World) (v:Value) (gs:List (List Nat)):Prop :=
 B≤w.heap.size∧∃ us,w.ownsRow B 51 1 v gs.length us∧Rg.Elts w us gs∧Rg.Offs us v.ownBlock
theorem PR.nil {B:Nat} {w:World} (h:B≤w.heap.size):PR B w (.slice none 0 0) []:=⟨h,[],World.ownsRow_nil _ _ _ _,Rg.Elts.nil _,Rg.Offs.nil _⟩
theorem PR.below {B:Nat} {w w':World} {v:Value} {gs:List (List Nat)} (h:PR B w v gs) (hb:Below w.heap.size w w'):PR B w' v gs:=by
 obtain ⟨h0,us,h1,h2,h3⟩:=h;exact ⟨Nat.le_trans h0 hb.size,us,Rg.row_below h1 hb,h2.below hb,h3⟩
theorem PR.rows {B:Nat} {w:World} {v:Value} {gs:List (List Nat)} (h:PR B w v gs) (hl:gs.length≤1000000000):Rg.NRows w v gs:=by
 obtain ⟨h0,us,h1,h2,h3⟩:=h;exact h2.rows (Rg.Vals.of_row h1 hl)
theorem PR.lt {B:Nat} {w:World} {v:Value} {gs:List (List Nat)} (h:PR B w v gs):∀ j,v.ownBlock=some j→B≤j∧j<w.heap.size:=by
 obtain ⟨h0,us,h1,h2,h3⟩:=h;exact fun j e=>h1.lt j e
theorem PR.off {B:Nat} {w:World} {v u:Value} {gs:List (List Nat)} (h:PR B w v gs) (hu:Rg.Fresh w.heap.size u):Rg.Off u v.ownBlock:=Rg.Off.fresh hu fun j e=>(h.lt j e).2
theorem PR.app {B:Nat} {w:World} {v u:Value} {gs:List (List Nat)} {g:List Nat} (h:PR B w v gs) (hu:Rg.NP w u g) (hs:∃ a n c,u=.slice a n c) (ho:Rg.Off u v.ownBlock) (hn:gs.length<1000000) (ty:TypeId) :
  ∃ v' X,(Builtin.append_ #[22,22] ty #[v,.slice (some ⟨w.heap.size,0,none⟩) 1 1]).run Tryz.prog (w.alloc (.cells #[u] 51))=.ok v' X ∧
   PR B X v' (gs++[g])∧Below B w X∧(∀ v2 l2,Rg.NP w v2 l2→Rg.Off v2 v.ownBlock→Rg.NP X v2 l2∧Rg.Off v2 v'.ownBlock)∧(∃ a c,v'=.slice a (gs.length+1) c):=by
 obtain ⟨a,n,c,rfl⟩:=hs;obtain ⟨h0,us,h1,h2,h3⟩:=h;have hba:Below w.heap.size w (w.alloc (.cells #[.slice a n c] 51)):=(Below.refl _ _).alloc (Nat.le_refl _) _;obtain ⟨v',X,r1,r2,r3,r4,r5⟩:=app_run (P:=Tryz.prog) slPerms ty (Rg.row_below h1 hba) (by simp; omega) w.heap.size 1 (u:=.slice a n c) (by rw [Rg.cellNew]; rfl) rfl (by omega);have hE:=(h2.below hba).snoc (hu.below hba);have hO:=h3.snoc ho;have hge:(w.alloc (.cells #[.slice a n c] 51)).heap.size≤X.heap.size:=r3.size
 have hsz:(w.alloc (.cells #[.slice a n c] 51)).heap.size=w.heap.size+1:=by simp
 refine ⟨v',X,r1,⟨by omega,_,by rw [List.length_append]; exact r2,hE.grown hO r3,Rg.Offs.next hO hE r4 (Nat.le_refl _)⟩,((Below.refl _ _).alloc h0 _).grown r3 (by omega) (fun j e=>(h1.lt j e).1),fun v2 l2 e1 e2=>?_,r5⟩;exact ⟨(e1.below hba).grown e2 r3,Rg.Off.next e2 (e1.below hba) r4 (Nat.le_refl _)⟩
theorem run_build1P (X:World) (u:Value) (hs:∃ a n c,u=.slice a n c):(Instr.buildSlice 22 1 #[(0,u)]).run Tryz.prog X=.ok (.slice (some ⟨X.heap.size,0,none⟩) 1 1) (X.alloc (.cells #[u] 51)):=by
 obtain ⟨i0,hi,hz0,hz1,hz2⟩:=info_parts infoPerm;obtain ⟨a,n,c,rfl⟩:=hs;refine run_buildSlice X 22 51 1 _ _ i0 _ Tryz.underlying22 hi hz0 (by rw [hz1]; decide) (by rw [hz1]; decide) ?_;generalize (fun x=>((Value.slice none 0 0).cells)[x % (Value.slice none 0 0).cells.size]!)=f;rw [hz1];have h1:Array.range (1*1)=#[0]:=rfl;simp [Instr.fill,Value.cells,h1]
theorem ofN_inj {a b:List Nat}:Ma.ofN a=Ma.ofN b↔a=b:=by
 constructor
 ·intro h
  have:=congrArg (fun l=>l.map Int.toNat) h
  simpa [Ma.ofN,List.map_map,Function.comp_def] using this
 ·rintro rfl; rfl

theorem szP:(Tryz.prog.info? 51).map (·.size)=some 1:=by kernel_rfl
theorem run_storeP {w:World} {b o:Nat} {u:Value} (a:Option Addr) (n c:Nat) (h:w.cell? ⟨b,o,none⟩=some u) (hf:w.frozen? ⟨b,o,none⟩=false) :
  (storeVar 51 ⟨b,o,none⟩ (.slice a n c)).run Tryz.prog w=.ok () (w.setCell ⟨b,o,none⟩ (.slice a n c)):=by
 obtain ⟨i0,hi,hz0,hz1,hz2⟩:=info_parts infoPerm
 have h0:(⟨b,o,none⟩:Addr).add 0=⟨b,o,none⟩:=by simp [Addr.add]
 simp [storeVar,sizeOf,typeInfo,hi,hz1,Value.cells,storeCells,store,h0];simp [Sem.run,h,hf]
def UA (w:World) (bu:Nat) (gs:List (List Nat)) (D:Nat) (T:List En) (k:Nat):Prop :=
 ∃ F,w.rowIs bu 207 64 F∧∀ i (h:i<T.length),i<k→Rg.NP w (F T[i].1) (wprod gs D T[i].2.2.2)∧Rg.Fresh (bu+1) (F T[i].1)
theorem UA.lt {w:World} {bu:Nat} {gs:List (List Nat)} {D:Nat} {T:List En} {k:Nat} (h:UA w bu gs D T k):bu<w.heap.size:=by
 obtain ⟨F,⟨c,h1,_⟩,_⟩:=h;exact (Array.getElem?_eq_some_iff.1 h1).1
theorem UA.below {w w':World} {bu:Nat} {gs:List (List Nat)} {D:Nat} {T:List En} {k:Nat} (h:UA w bu gs D T k) (hb:Below w.heap.size w w'):UA w' bu gs D T k:=by
 obtain ⟨F,⟨c,h1,h2,h3⟩,h4⟩:=h;exact ⟨F,⟨c,by rw [hb.block bu (Array.getElem?_eq_some_iff.1 h1).1]; exact h1,h2,h3⟩,fun i hi hk=>⟨(h4 i hi hk).1.below hb,(h4 i hi hk).2⟩⟩
theorem UA.start (w:World) (gs:List (List Nat)) (D:Nat) (T:List En):UA (w.alloc (.cells (Array.replicate 64 (.slice none 0 0)) 207)) w.heap.size gs D T 0:=by
 refine ⟨fun _=>.slice none 0 0,?_,fun i _ h=>by omega⟩;have:=World.rowIs_alloc w (Array.replicate 64 (.slice none 0 0)) 207 (fun _=>.slice none 0 0) (fun i hi=>by rw [Array.getElem?_replicate,if_pos (by simpa using hi)])
 simpa using this
theorem UA.get {w:World} {bu:Nat} {gs:List (List Nat)} {D:Nat} {T:List En} {k:Nat} (h:UA w bu gs D T k) {i:Nat} (hi:i<T.length) (hk:i<k) (h64:T[i].1<64):∃ u,w.cell? ⟨bu,0+T[i].1,none⟩=some u∧Rg.NP w u (wprod gs D T[i].2.2.2)∧Rg.Fresh (bu+1) u:=by
 obtain ⟨F,h1,h2⟩:=h;exact ⟨_,by rw [Nat.zero_add]; exact h1.cell h64,h2 i hi hk⟩
theorem UA.put {w W:World} {bu:Nat} {gs:List (List Nat)} {D:Nat} {T:List En} {k:Nat} (h:UA w bu gs D T k) (hb:Below w.heap.size w W) (hnd:(pts T).Nodup) (hk:k<T.length) (h64:T[k].1<64) {a:Option Addr} {n c:Nat} (hu:Rg.NPF w W (.slice a n c) (wprod gs D T[k].2.2.2)) :
  (storeVar 51 ⟨bu,0+T[k].1,none⟩ (.slice a n c)).run Tryz.prog W=.ok () (W.setCell ⟨bu,0+T[k].1,none⟩ (.slice a n c))∧UA (W.setCell ⟨bu,0+T[k].1,none⟩ (.slice a n c)) bu gs D T (k+1):=by
 have hlt:=h.lt;have h':=h.below hb;obtain ⟨F,h1,h2⟩:=h';rw [Nat.zero_add];refine ⟨run_storeP a n c (h1.cell h64) (h1.frozen _),_,h1.set T[k].1 (.slice a n c),fun i hi hik=>?_⟩
 by_cases he:i=k
 ·subst he
  simp only [if_true];have hf:Rg.Fresh (bu+1) (.slice a n c):=hu.2.mono hlt;exact ⟨ints_set hu.1 hf (by omega) _,hf⟩
 ·have hne:T[i].1≠T[k].1:=by
   intro e;have:=(List.getElem_inj hnd (h₀:=by rw [len_pts]; omega) (h₁:=by rw [len_pts]; omega)).1 ((get_pts T i (by rw [len_pts]; omega)).trans (e.trans (get_pts T k (by rw [len_pts]; omega)).symm));omega
  obtain ⟨g1,g2⟩:=h2 i hi (by omega);simp only [if_neg hne];exact ⟨ints_set g1 g2 (by omega) _,g2⟩

theorem ptE_ok {d:Int} {ll:List (List Int)} {p:Int} (h:ptE d ll p=0):∃ (D:Nat) (gs:List (List Nat)) (P:Nat),d=D∧ll=gs.map Ma.ofN∧p=P∧GG D gs∧1≤D∧D≤64∧gs.length≤16∧P<D:=by
 obtain ⟨h1,h2⟩:=ptE_zero h;obtain ⟨D,gs,rfl,rfl,hgg,hD1,hD2,hgl⟩:=gchk_ok h1;obtain ⟨hp0,hp1⟩:=isPt_nat h2;obtain ⟨P,rfl⟩:∃ P:Nat,p=P:=⟨p.toNat,by omega⟩;exact ⟨D,gs,P,rfl,rfl,rfl,hgg,hD1,hD2,hgl,by omega⟩
theorem refTree_err (gv:Value) (d:Int) (ll:List (List Int)) (p:Int) (w:World) (h:Rg.Rows w gv ll) (hz:ptE d ll p≠0) :
  Calls Tryz.prog 255 #[.agg #[.int .i64 d,gv],.int .i64 p] w (TrPost ([],[],[]) (ptE d ll p) w):=by
 obtain ⟨ga,gc,rfl,_⟩:=h.shape;have hba:Below w.heap.size w (w.alloc (.cells #[.int .i64 d,.slice ga ll.length gc] 24)):=(Below.refl _ _).alloc (Nat.le_refl _) _
 have hc0:(w.alloc (.cells #[.int .i64 d,.slice ga ll.length gc] 24)).cell? ⟨w.heap.size,0,none⟩=some (.int .i64 d):=by rw [Rg.cellNew]; rfl
 have hc1:(w.alloc (.cells #[.int .i64 d,.slice ga ll.length gc] 24)).cell? ⟨w.heap.size,1,none⟩=some (.slice ga ll.length gc):=by rw [Rg.cellNew]; rfl
 have R:=ι (h.below hba);have K:=ι hba;have hpt:=refPoint_any (.slice ga ll.length gc) d ll p _ R.out;obtain ⟨e0,he⟩:∃ e0,Hid (e0=ptE d ll p):=⟨_,ι rfl⟩;rw [← he.out] at hpt hz ⊢;have HP:=ι hpt;clear h hba hpt
 go_enter Tryz.func255,Tryz.ntmps255
 go_wp2_with (go_at_call 307; refine HP.out.mono ?_; rintro e w1 ⟨rfl,hb1⟩; replace K:=ι (Rg.acc K.out hb1); clear hb1)
 exact bodyPost_ret (results4 rfl _ rfl rfl rfl rfl _) rfl ⟨_,_,_,rfl,Rg.Ints.nil _ _ _ (Nat.zero_le _),Rg.Ints.nil _ _ _ (Nat.zero_le _),Rg.Ints.nil _ _ _ (Nat.zero_le _),K.out⟩
end Go.Proofs.YthehbckogieimaaGreat

namespace Go.Proofs.YthehbckogieimaaGreat
open Go.RowKit
open Go.Proofs
open Go.ChangeMaps
attribute [local irreducible] Go.Calls
def IMap (w:World) (r:Nat) (m:List Int):Prop :=
 ∃ es clock,w.heap[r]?=some (.map es clock)∧es.toList.map (fun e=>(e.key,e.val))=m.map (fun x=>(Value.int .i64 x,Value.bool true))
theorem IMap.lt {w:World} {r:Nat} {m:List Int} (h:IMap w r m):r<w.heap.size:=by
 obtain ⟨es,c,h1,_⟩:=h; exact (Array.getElem?_eq_some_iff.1 h1).1
theorem IMap.of_block {w w':World} {r:Nat} {m:List Int} (h:IMap w r m) (e:w'.heap[r]?=w.heap[r]?):IMap w' r m:=by
 obtain ⟨es,c,h1,h2⟩:=h; exact ⟨es,c,e.trans h1,h2⟩
theorem IMap.below {w w':World} {r:Nat} {m:List Int} (h:IMap w r m) (hb:Below w.heap.size w w'):IMap w' r m:=h.of_block (hb.block r h.lt)
theorem IMap.grown {w w':World} {r:Nat} {m:List Int} {k:Option Nat} (h:IMap w r m) (hg:w.grownBy w' k) (hne:some r≠k):IMap w' r m:=h.of_block (hg.block r h.lt hne)
theorem IMap.new (w:World):IMap (w.alloc (.map #[] 0)) w.heap.size []:=⟨#[],0,by unfold World.alloc; simp,rfl⟩
theorem now_items (x:Int):∀ (es:List MapEntry) (m:List Int) (i:Nat),es.map (fun e=>(e.key,e.val))=m.map (fun x=>(Value.int .i64 x,Value.bool true)) →
  (x∈m→∃ j,Instr.findNow (.int .i64) (.int .i64 x) es i=some (some (j,.bool true)))∧(x∉m→Instr.findNow (.int .i64) (.int .i64 x) es i=some none)
 | [],m,i,h=>by
  obtain rfl:m=[]:=by cases m; rfl; simp at h
  exact ⟨fun h=>by simp at h,fun _=>rfl⟩
 | e0 :: es,m,i,h=>by
  cases m with
  | nil=>simp at h
  | cons y m =>
   simp only [List.map_cons,List.cons.injEq,Prod.mk.injEq] at h;obtain ⟨⟨h1,h2⟩,h3⟩:=h;obtain ⟨g1,g2⟩:=now_items x es m (i+1) h3
   by_cases hxy:x=y
   ·subst hxy
    refine ⟨fun _=>⟨i,by simp [Instr.findNow,Instr.sameNow,h1,h2]⟩,fun h=>absurd (List.mem_cons_self ..) h⟩
   ·have hs:Instr.sameNow (.int .i64) (.int .i64 x) e0.key=some false:=by simp [Instr.sameNow,h1,hxy]
    refine ⟨fun h=>?_,fun h=>?_⟩
    ·rcases List.mem_cons.1 h with h | h
     ·exact absurd h hxy
     ·obtain ⟨j,hj⟩:=g1 h
      exact ⟨j,by simp [Instr.findNow,hs,hj]⟩
    ·have:=g2 (fun h'=>h (List.mem_cons_of_mem _ h'))
     simp [Instr.findNow,hs,this]
theorem keyOk (em:Bool) (x:Int) (w:World):(Instr.checkKey em 10000 3 (.int .i64 x)).run Tryz.prog w=.ok () w:=by
 rw [show (10000:Nat)=9999+1 from rfl,Instr.checkKey];simp [Sem.run_bind,run_underlying Tryz.underlying3]
theorem IMap.look {w:World} {r:Nat} {m:List Int} (h:IMap w r m) (x:Int):(Instr.lookup 306 (.map (some r)) (.int .i64 x) false).run Tryz.prog w=.ok (.bool (decide (x∈m))) w:=by
 obtain ⟨es,c,h1,h2⟩:=h;obtain ⟨g1,g2⟩:=now_items x es.toList m 0 h2
 by_cases hx:x∈m
 ·obtain ⟨j,hj⟩:=g1 hx
  have hf:(Instr.findKey 3 (.int .i64 x) es.toList).run Tryz.prog w=.ok (some (j,.bool true)) w:=by
   unfold Instr.findKey;simp [run_underlying Tryz.underlying3,hj]
  simp [Instr.lookup,run_underlying Tryz.underlying306,MapKept.run_getObj_map h1,keyOk,hf,Result.andThen,hx]
 ·have hj:=g2 hx
  have hf:(Instr.findKey 3 (.int .i64 x) es.toList).run Tryz.prog w=.ok none w:=by
   unfold Instr.findKey;simp [run_underlying Tryz.underlying3,hj]
  simp [Instr.lookup,run_underlying Tryz.underlying306,MapKept.run_getObj_map h1,keyOk,hf,Result.andThen,hx]
theorem IMap.put {w:World} {r:Nat} {m:List Int} (h:IMap w r m) (x:Int) (hx:x∉m) :
  ∃ w',(Instr.mapUpdate 306 (.map (some r)) (.int .i64 x) (.bool true)).run Tryz.prog w=.ok () w'∧IMap w' r (m++[x])∧w.grownBy w' (some r):=by
 obtain ⟨es,c,h1,h2⟩:=h;have hj:=(now_items x es.toList m 0 h2).2 hx
 have hf:(Instr.findKey 3 (.int .i64 x) es.toList).run Tryz.prog w=.ok none w:=by
  unfold Instr.findKey;simp [run_underlying Tryz.underlying3,hj]
 refine ⟨setBlock w r (.map (es.push ⟨.int .i64 x,.bool true,c⟩) (c+1)),?_,⟨_,_,heap_setBlock_same h1 _,?_⟩,⟨rfl,rfl,rfl,by simp [setBlock],fun i _ hi=>heap_setBlock_other h1 _ (fun e=>hi (by rw [e]))⟩⟩
 ·simp [Instr.mapUpdate,run_underlying Tryz.underlying306,MapKept.run_getObj_map h1,keyOk,hf,MapKept.run_setObj_map _ h1,Result.andThen,setBlock]
 ·simp [h2]
end Go.Proofs.YthehbckogieimaaGreat
