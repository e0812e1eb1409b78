/- Lemmas and contracts on the way to the statement; no condition of their own beyond those written. -/
import Derived.Test.YtdnmmibchbceeaaGreatXBptoDi
import Derived.Deep.Strs
set_option linter.unusedVariables false
set_option linter.unusedSimpArgs false
set_option maxRecDepth 100000
set_option maxHeartbeats 8000000
variable {w W w' W' w0 X:Go.World} {n B N k mb L m nx j cap D tc base bytes q n₀ gb tk most gc cb:Nat} {v u sv rv ov fv z v1 v2 xv u1 u2 av tv u3 uv:Go.Value} {F M F' F0 M':Nat→Prop} {gs T O A Ks T' Fd:List (List Nat)} {l l1 l2:List Int} {d:Int} {H:List Nat→Prop} {R:List (List (List Nat))} {vs:List Go.Value} {a s:List Nat} {RR:List (List (List Int))} {OO Wd:List (List Int)}
namespace Go.Proofs.YtdnmmibchbceeaaGreat
open Go.RowKit
open Go.Proofs
open Go.Proofs.Ob
attribute [local irreducible] Go.Calls
theorem run_storeEn {b o:Nat} (hv:∃ q,v=.pointer q) (h:w.cell? ⟨b,o,none⟩=some u) (hf:w.frozen? ⟨b,o,none⟩=false) :
  (storeVar 110 ⟨b,o,none⟩ v).run Tryz.prog w=.ok () (w.setCell ⟨b,o,none⟩ v):=by
 obtain ⟨q,rfl⟩:=hv;obtain ⟨i0,hi,hz0,hz1,hz2⟩:=info_parts infoEnp
 have h0:(⟨b,o,none⟩:Addr).add 0=⟨b,o,none⟩:=by simp [Addr.add]
 simp [storeVar,sizeOf,typeInfo,hi,hz1,Value.cells,storeCells,store,h0];simp [Sem.run,h,hf]
theorem yields_indexE {ops:Array Oper} {S:World→Prop} {o:Oper} {a:Act} (x y:Operand) (hg:Region.wanted o (yielded ops a.tmps)=true) (ho:o.op=.indexAddr 102 x y) (b len cap i:Nat) (hx:a.eval x=.slice (some ⟨b,0,none⟩) len cap) (hy:a.eval y=.int .i64 (i:Int)) (hi:i<len) :
  YieldsIf Tryz.prog ops S o (.pointer (some ⟨b,i,none⟩)) a:=by
 have:=Rg.yields_index (S:=S) slEnts x y hg ho b 0 len cap i hx hy hi
 rwa [Nat.zero_add] at this
theorem exec_indexE {o:Oper} {a:Act} (x y:Operand) (ho:o.op=.indexAddr 102 x y) (b len cap i:Nat) (hx:a.eval x=.slice (some ⟨b,0,none⟩) len cap) (hy:a.eval y=.int .i64 (i:Int)) (hi:i<len) :
  (execOp a.eval o).run Tryz.prog w=.ok (.value (.pointer (some ⟨b,i,none⟩))) w:=by
 have:=Rg.run_indexSl slEnts w b 0 len cap i hi;rw [Nat.zero_add] at this;unfold execOp;simp only [ho,hx,hy,Sem.run_bind,Sem.run_pure,Result.andThen_ok,this]
theorem ReverseE_row (b n m cap:Nat) (g:Nat→Value) (w w0:World) (hm:m≤n) (hn:m≤64) (hc:m≤cap) (hcl:∀ j,j<m→∃ q,g j=Value.pointer q) (hr:w.rowIs b 110 n (fun j=>g j)) (hb:Below w0.heap.size w0 w) (hB:w0.heap.size≤b) :
  Calls Tryz.prog 66 #[.slice (some ⟨b,0,none⟩) m cap] w fun e w'=>(∃ v,e=.returned v)∧w'.rowIs b 110 n (fun j=>(if j<m then g (m - 1 - j) else g j))∧Below w0.heap.size w0 w':=by
 have Hr:=ι hr;clear hr
 go_enter Tryz.func66,Tryz.ntmps66
 go_wp2
 go_loopw [2,3] (fun u v wr=>∃ (k:Nat) (j:Int),u=.int .i64 k∧v=.int .i64 j∧j+k+1=m∧k≤m∧Hid (wr.rowIs b 110 n (fun x=>(if x<m∧(x<k∨m≤x+k) then g (m - 1 - x) else g x)))∧Below w0.heap.size w0 wr) (fun u _ _=>m - (intOf u).toNat)
 case atStart=>exact ⟨0,_,rfl,rfl,by omega,by omega,Hr.out.congr (fun i hi=>by rw [if_neg (by omega)]),hb⟩
 case round =>
  clear Hr hb;obtain ⟨k,j,rfl,rfl,hj,hk,hs,hbel⟩:=hrel
  by_cases hlt:(k:Int)<j
  ·obtain ⟨jn,rfl⟩:∃ jn:Nat,j=jn:=⟨j.toNat,by omega⟩
   have hjn:jn+k+1=m:=by omega
   have hkj:k<jn:=by omega
   have ck:=hs.out.cell (show k<n by omega);have cj:=hs.out.cell (show jn<n by omega);rw [if_neg (by omega)] at ck cj;have fk:=hs.out.frozen k;have fj:=hs.out.frozen jn;go_upto_region 3 with (fail);have hsd:(World.drew wr).rowIs b 110 n (fun x=>(if x<m∧(x<k∨m≤x+k) then g (m - 1 - x) else g x)):=hs.out;have hbd:Below w0.heap.size w0 (World.drew wr):=hbel.drew;have hT:(World.drew wr).cell? ⟨b,k,none⟩=some (g k)∧(World.drew wr).cell? ⟨b,jn,none⟩=some (g jn):=⟨ck,cj⟩;have hfk:(World.drew wr).frozen? ⟨b,k,none⟩=false:=fk;have hfj:(World.drew wr).frozen? ⟨b,jn,none⟩=false:=fj;have HS:=ι hsd;clear hsd ck cj fk fj hs hbel;refine Rg.Any.begin (S:=Rg.Both 13 (fun W=>W.cell? ⟨b,k,none⟩=some (g k)∧W.cell? ⟨b,jn,none⟩=some (g jn)) (fun _=>True)) mix ?_;generalize World.drew wr=W at *;have hS:∀ l,Rg.Both 13 (fun W=>W.cell? ⟨b,k,none⟩=some (g k)∧W.cell? ⟨b,jn,none⟩=some (g jn)) (fun _=>True) l W:=fun l=>⟨.inr hT,trivial⟩
   refine Rg.tg 0 13 (.slice (some ⟨b,0,none⟩) m cap) 14 rfl rfl (.inl ⟨rfl,fun W hW=>Rg.exec_move _ rfl rfl⟩) (hS _) ?_;go_frame;refine Rg.tg 1 13 (.int .i64 (k:Int)) 15 rfl rfl (.inl ⟨rfl,fun W hW=>Rg.exec_move _ rfl rfl⟩) (hS _) ?_;go_frame;refine Rg.tg 2 13 (.slice (some ⟨b,0,none⟩) m cap) 16 rfl rfl (.inl ⟨rfl,fun W hW=>Rg.exec_move _ rfl rfl⟩) (hS _) ?_;go_frame;refine Rg.tg 3 13 (.int .i64 (jn:Int)) 17 rfl rfl (.inl ⟨rfl,fun W hW=>Rg.exec_move _ rfl rfl⟩) (hS _) ?_;go_frame;refine Rg.tg 4 13 (.slice (some ⟨b,0,none⟩) m cap) 18 rfl rfl (.inl ⟨rfl,fun W hW=>Rg.exec_move _ rfl rfl⟩) (hS _) ?_;go_frame;refine Rg.tg 5 13 (.int .i64 (jn:Int)) 19 rfl rfl (.inl ⟨rfl,fun W hW=>Rg.exec_move _ rfl rfl⟩) (hS _) ?_;go_frame;refine Rg.tg 6 13 (.pointer (some ⟨b,jn,none⟩)) 20 rfl rfl (yields_indexE _ _ rfl rfl b m cap jn rfl rfl (by omega)) (hS _) ?_;go_frame;refine Rg.tT 7 13 (g jn) 21 rfl rfl (Rg.yields_cell _ _ rfl rfl ⟨b,jn,none⟩ rfl (fun w h=>Rg.run_loadPtr _ _ Tryz.underlying110 h.2)) (hS _) ?_;go_frame
   refine Rg.tg 8 13 (.slice (some ⟨b,0,none⟩) m cap) 22 rfl rfl (.inl ⟨rfl,fun W hW=>Rg.exec_move _ rfl rfl⟩) (hS _) ?_;go_frame;refine Rg.tg 9 13 (.int .i64 (k:Int)) 23 rfl rfl (.inl ⟨rfl,fun W hW=>Rg.exec_move _ rfl rfl⟩) (hS _) ?_;go_frame;refine Rg.tg 10 13 (.pointer (some ⟨b,k,none⟩)) 24 rfl rfl (yields_indexE _ _ rfl rfl b m cap k rfl rfl (by omega)) (hS _) ?_;go_frame;refine Rg.tT 11 13 (g k) 25 rfl rfl (Rg.yields_cell _ _ rfl rfl ⟨b,k,none⟩ rfl (fun w h=>Rg.run_loadPtr _ _ Tryz.underlying110 h.1)) (hS _) ?_;go_frame;refine Rg.aR 12 26 rfl rfl (exec_indexE _ _ rfl b m cap k rfl rfl (by omega)) (hS _) ?_;go_frame;refine Rg.Any.one (i:=13) (by kernel_rfl) (Rg.Any.runSkip none rfl rfl rfl (Rg.exec_store _ _ _ rfl _ rfl (g jn) rfl (run_storeEn (hcl jn (by omega)) hT.1 hfk)) ⟨.inl rfl,trivial⟩ ?_);go_frame
   have hcj2:(W.setCell ⟨b,k,none⟩ (g jn)).cell? ⟨b,jn,none⟩=some (g jn):=by
    rw [World.cell?_setCell_other (h:=by intro e; injection e with e1 e2; omega) ..]
    exact hT.2
   have hfj2:(W.setCell ⟨b,k,none⟩ (g jn)).frozen? ⟨b,jn,none⟩=false:=by rw [World.frozen?_setCell]; exact hfj
   refine Rg.Any.one (i:=14) (by kernel_rfl) (Rg.Any.run (some 27) rfl rfl rfl (exec_indexE _ _ rfl b m cap jn rfl rfl (by omega)) ⟨.inl rfl,trivial⟩ ?_);go_frame;refine Rg.Any.one (i:=15) (by kernel_rfl) (Rg.Any.runSkip none rfl rfl rfl (Rg.exec_store _ _ _ rfl _ rfl (g k) rfl (run_storeEn (hcl k (by omega)) hcj2 hfj2)) ⟨.inl rfl,trivial⟩ ?_);go_frame;refine Rg.Any.done (by kernel_rfl) ?_ _;have hrow:=(HS.out.set k (g jn)).set jn (g k);have hbl:Below w0.heap.size w0 ((W.setCell ⟨b,k,none⟩ (g jn)).setCell ⟨b,jn,none⟩ (g k)):=(hbd.setCell hB _).setCell hB _;clear hcj2 hfj2 hS hT hfk hfj HS hbd;generalize (W.setCell ⟨b,k,none⟩ (g jn)).setCell ⟨b,jn,none⟩ (g k)=W2 at *;have HR:=ι hrow;clear hrow;go_wp2
   go_roundw
   case rel =>
    refine ⟨k+1,(jn:Int) - 1,by go_num,by go_num,by omega,by omega,ι (HR.out.congr fun x hx=>?_),hbl⟩
    by_cases e1:x=jn
    ·rw [if_pos e1,if_pos (by omega),show m - 1 - x=k from by omega]
    ·rw [if_neg e1]
     by_cases e2:x=k
     ·rw [if_pos e2,if_pos (by omega),show m - 1 - x=jn from by omega]
     ·rw [if_neg e2]
      by_cases e3:x<m∧(x<k∨m≤x+k)
      ·rw [if_pos e3,if_pos (by omega)]
      ·rw [if_neg e3,if_neg (by omega)]
   case measure=>simp [intOf]; omega
  ·go_wp2
   go_end0
   refine ⟨⟨_,rfl⟩,hs.out.congr fun x hx=>?_,hbel⟩
   by_cases e1:x<m
   ·rw [if_pos e1]
    by_cases e2:x<m∧(x<k∨m≤x+k)
    ·rw [if_pos e2]
    ·rw [if_neg e2,show m - 1 - x=x from by omega]
   ·rw [if_neg e1,if_neg (by omega)]
theorem rowE_own {g:Nat} {e:TypeId} {us:List Value} (h:w.ownsRow B e 1 (.slice (some ⟨g,0,none⟩) n cap) n us):n≤cap∧B≤g∧∃ V:Nat→Value,w.rowIs g e cap V∧∀ i (hi:i<us.length),V i=us[i]:=by
 obtain ⟨h1,h2⟩:=h
 rcases h2 with ⟨h3,_⟩ | ⟨g',cap',cur,h3,hB,hc,h5,h6,h7,h8⟩
 ·cases h3
 ·simp only [Value.slice.injEq,Option.some.injEq,Addr.mk.injEq,and_true,true_and] at h3
  obtain ⟨rfl,rfl⟩:=h3
  have hl:us.length=n:=by omega
  have hus:∀ i (hi:i<us.length),cur[i]?=some us[i]:=fun i hi=>by
   rw [← Array.getElem?_toList,← List.getElem?_eq_getElem hi,← h8,List.getElem?_take_of_lt (by omega)]
  refine ⟨h5,hB,fun i=>(cur[i]?).getD undef,⟨cur,hc,by omega,fun i hi=>?_⟩,fun i hi=>?_⟩
  ·show cur[i]?=some ((cur[i]?).getD undef)
   rw [Array.getElem?_eq_getElem (by omega)]; rfl
  ·show (cur[i]?).getD undef=_
   rw [hus i hi]; rfl
theorem ownE_row {g:Nat} {e:TypeId} {us:List Value} {V:Nat→Value} (h:w.rowIs g e cap V) (hB:B≤g) (hn:n≤cap) (hc:cap≤maxLen) (hl:us.length=n) (hV:∀ i (hi:i<us.length),V i=us[i]):w.ownsRow B e 1 (.slice (some ⟨g,0,none⟩) n cap) n us:=by
 obtain ⟨cur,h1,h2,h3⟩:=h;refine ⟨by omega,.inr ⟨g,cap,cur,rfl,hB,h1,hn,hc,by omega,?_⟩⟩
 apply List.ext_getElem?
 intro i
 by_cases hi:i<us.length
 ·rw [List.getElem?_take_of_lt (by omega),Array.getElem?_toList,h3 i (by omega),hV i hi,List.getElem?_eq_getElem hi]
 ·rw [List.getElem?_eq_none (by simp; omega),List.getElem?_eq_none (by omega)]
theorem row_cap {g:Nat} {e:TypeId} {us:List Value} (h:w.ownsRow B e 1 (.slice (some ⟨g,0,none⟩) n cap) n us):cap≤maxLen:=by
 obtain ⟨h1,h2⟩:=h
 rcases h2 with ⟨h3,_⟩ | ⟨g',cap',cur,h3,hB,hc,h5,h6,h7,h8⟩
 ·cases h3
 ·simp only [Value.slice.injEq,Option.some.injEq,Addr.mk.injEq,and_true,true_and] at h3
  obtain ⟨rfl,rfl⟩:=h3;exact h6
theorem reverseE {us:List Value} (h:w.ownsRow B 110 1 uv n us) (hcl:∀ u∈us,∃ q,u=Value.pointer q) (hn:n≤64) (hb:Below w0.heap.size w0 w) (hB:w0.heap.size≤B) :
  Calls Tryz.prog 66 #[uv] w fun e w'=>(∃ v,e=.returned v)∧w'.ownsRow B 110 1 uv n us.reverse∧Below w0.heap.size w0 w':=by
 obtain ⟨a,c,hs⟩:=Rg.row_shape h;subst hs
 have hl:us.length=n:=by have:=h.1; omega
 cases a with
 | none =>
  have hn0:n=0:=by
   obtain ⟨_,h2⟩:=h
   rcases h2 with ⟨_,h4⟩ | ⟨g,cap,cur,h3,_⟩
   ·exact h4
   ·cases h3
  subst hn0;have hus:us=[]:=List.eq_nil_of_length_eq_zero hl;subst hus;have H:=ι h;clear h hcl hl
  go_enter Tryz.func66,Tryz.ntmps66
  go_wp2
  go_loopw [2,3] (fun u v wr=>u=.int .i64 0∧v=.int .i64 (-1)∧Hid (wr.ownsRow B 110 1 (.slice none 0 c) 0 [])∧Below w0.heap.size w0 wr) (fun u _ _=>0)
  case atStart=>exact ⟨rfl,rfl,H,hb⟩
  case round =>
   clear H hb;obtain ⟨rfl,rfl,H,hb⟩:=hrel;go_wp2
   first
   | go_end0
   | refine bodyPost_ret (results_none rfl _ _ _) rfl ?_
   exact ⟨⟨_,rfl⟩,H.out,hb⟩
 | some ad =>
  obtain ⟨g,hg⟩:∃ g,ad=⟨g,0,none⟩:=by
   obtain ⟨_,h2⟩:=h
   rcases h2 with ⟨h4,_⟩ | ⟨g,cap,cur,h3,_⟩
   ·cases h4
   ·simp only [Value.slice.injEq,Option.some.injEq] at h3
    exact ⟨g,h3.1⟩
  subst hg;have hc:=row_cap h;obtain ⟨h1,h2,V,h3,h4⟩:=rowE_own h;refine (ReverseE_row g c n c V w w0 h1 hn h1 (fun j hj=>?_) h3 hb (Nat.le_trans hB h2)).mono ?_
  ·rw [h4 j (by omega)]; exact hcl _ (List.getElem_mem _)
  ·rintro e w' ⟨hv,hr,hbb⟩
   refine ⟨hv,ownE_row hr h2 h1 hc (by rw [List.length_reverse]; exact hl) (fun i hi=>?_),hbb⟩;rw [List.length_reverse] at hi;rw [if_pos (by omega),List.getElem_reverse,h4 _ (by omega)]
   congr 1
   omega
end Go.Proofs.YtdnmmibchbceeaaGreat

namespace Go.Proofs.YtdnmmibchbceeaaGreat
open Go.RowKit
open Go.Proofs
open Go.Proofs.Ob
open Go.Proofs.Cm (Gd Gr IsChain ap)
attribute [local irreducible] Go.Calls Go.wpList
theorem Bwcl4 (args:Array Value) (w:World):(callFunc 61 args).run Tryz.prog w=.ok (.enter 61 args) w:=by kernel_rfl
def rgC (d:Int) (ll:List (List Int)) (xl:List Int):Int:=if Ma.gchk d ll=0 then (if Ma.pchk xl=0 then (if (xl.length:Int)=d then 0 else 10) else Ma.pchk xl) else Ma.gchk d ll
theorem rgC_1 {ll:List (List Int)} {xl:List Int} (h:Ma.gchk d ll≠0):rgC d ll xl=Ma.gchk d ll:=if_neg h
theorem rgC_2 {ll:List (List Int)} {xl:List Int} (h:Ma.gchk d ll=0) (h2:Ma.pchk xl≠0):rgC d ll xl=Ma.pchk xl:=by unfold rgC; rw [if_pos h,if_neg h2]
theorem rgC_3 {ll:List (List Int)} {xl:List Int} (h:Ma.gchk d ll=0) (h2:Ma.pchk xl=0) (h3:¬ (xl.length:Int)=d):rgC d ll xl=10:=by unfold rgC; rw [if_pos h,if_pos h2,if_neg h3]
theorem rgC_4 {ll:List (List Int)} {xl:List Int} (h:Ma.gchk d ll=0) (h2:Ma.pchk xl=0) (h3:(xl.length:Int)=d):rgC d ll xl=0:=by unfold rgC; rw [if_pos h,if_pos h2,if_pos h3]
theorem rgC_get {ll:List (List Int)} {xl:List Int} (h:rgC d ll xl=0):Ma.gchk d ll=0∧∃ x N,xl=Ma.ofN x∧d=((N:Nat):Int)∧Gd N x:=by
 by_cases h1:Ma.gchk d ll=0
 ·by_cases h2:Ma.pchk xl=0
  ·by_cases h3:(xl.length:Int)=d
   ·obtain ⟨x,rfl,hx⟩:=Ma.okL_ofN (Ma.pchk_zero h2).2.2
    rw [Ma.len_ofN] at h3;exact ⟨h1,x,x.length,rfl,h3.symm,hx,rfl⟩
   ·rw [rgC_3 h1 h2 h3] at h; cases h
  ·rw [rgC_2 h1 h2] at h; exact absurd h h2
 ·rw [rgC_1 h1] at h; exact absurd h h1
theorem fcRight_any (gv xv:Value) (d:Int) (ll:List (List Int)) (xl:List Int) (w:World) (h:Rg.Rows w gv ll) (hx:Rg.Ints w xv xl) :
  Calls Tryz.prog 61 #[.agg #[.int .i64 d,gv],xv] w fun e w'=>e=.returned (.int .i64 (rgC d ll xl))∧Below w.heap.size w w':=by
 obtain ⟨xa,xc,rfl,-⟩:=hx.shape;have HX:=ι (NpI.mk hx);clear hx;obtain ⟨ga,gc,rfl,hga,hba⟩:=GI.enter (d) h;have K:=ι hba;have G0:=ι hga;clear h hga hba;obtain ⟨ck,hck⟩:∃ c,Hid (Ma.gchk d ll=c):=⟨_,ι rfl⟩;obtain ⟨pk,hpk⟩:∃ c,Hid (Ma.pchk xl=c):=⟨_,ι rfl⟩;replace HX:=ι (HX.out.below ((Below.refl _ _).alloc (Nat.le_refl _) (.cells #[.int .i64 d,.slice ga ll.length gc] 24)))
 go_enter Tryz.func61,Tryz.ntmps61
 go_upto_region 0 with (fail);refine Rg.wl ?_;refine Rg.lr 2 (Rg.exec_box _ _ rfl rfl) ?_;go_frame;refine Rg.la 4 (.int .i64 0) ?_;go_frame;generalize w.alloc (.cells #[.int .i64 d,.slice ga ll.length gc] 24)=w0 at *;go_upto_region 1 with (fail);refine Rg.wl ?_;refine Rg.lr 7 (Rg.lo (.agg #[.int .i64 d,.slice ga ll.length gc]) ⟨w.heap.size,0,none⟩ (run_loadG G0.out.c0 G0.out.c1)) ?_;go_frame;refine Rg.lk 8 (exec_fn1 40 _ _ rfl rfl (Wbcl0 _ _)) ?_;refine (orbitCheck_any _ d ll w0 G0.out.rows).mono ?_;rintro e1 w1 ⟨rfl,hb⟩;rw [hck.out];refine ⟨_,rfl,?_⟩;go_frame;replace G0:=ι (G0.out.below hb);replace HX:=ι (HX.out.below hb);replace K:=ι (Rg.acc K.out hb);clear hb;refine Rg.la 5 (.int .i64 ck) ?_;go_frame
 by_cases h0:ck=0
 case neg =>
  skip
  go_upto_region 2 with (fail);refine Rg.wl ?_;refine Rg.lm 9 (.int .i64 ck) ?_;go_frame;refine Rg.lr 10 (Rg.bn (.bool true) .neq (h:=b_neqB _ (decide_eq_true h0))) ?_;go_frame;go_upto_region 3 with (fail);refine Rg.wl ?_;refine Rg.lm 11 (.int .i64 ck) ?_;go_frame;refine Rg.la 4 (.int .i64 ck) ?_;go_frame;go_wp2;go_ret;exact ⟨by rw [rgC_1 (by rw [hck.out]; exact h0),hck.out]; rfl,K.out⟩
 case pos =>
  have HZ:=ι (hck.out.trans h0);go_upto_region 2 with (fail);refine Rg.wl ?_;refine Rg.lm 9 (.int .i64 ck) ?_;go_frame;refine Rg.lr 10 (Rg.bn (.bool false) .neq (h:=b_neqB _ (decide_eq_false (fun e=>e h0)))) ?_;go_frame;clear h0;go_upto_region 4 with (fail);refine Rg.wl ?_;refine Rg.lm 12 (.slice xa xl.length xc) ?_;go_frame;refine Rg.lk 13 (exec_fn1 75 _ _ rfl rfl (Wvcl1 _ _)) ?_;refine (permCheck_any _ _ w1 HX.out.i).mono ?_;rintro e1 w22 ⟨rfl,hb⟩;rw [hpk.out];refine ⟨_,rfl,?_⟩;go_frame;replace G0:=ι (G0.out.below hb);replace HX:=ι (HX.out.below hb);replace K:=ι (Rg.acc K.out hb);clear hb;refine Rg.la 6 (.int .i64 pk) ?_;go_frame
  by_cases h1:pk=0
  case neg =>
   skip
   go_upto_region 5 with (fail);refine Rg.wl ?_;refine Rg.lm 14 (.int .i64 pk) ?_;go_frame;refine Rg.lr 15 (Rg.bn (.bool true) .neq (h:=b_neqB _ (decide_eq_true h1))) ?_;go_frame;go_upto_region 6 with (fail);refine Rg.wl ?_;refine Rg.lm 16 (.int .i64 pk) ?_;go_frame;refine Rg.la 4 (.int .i64 pk) ?_;go_frame;go_wp2;go_ret;exact ⟨by rw [rgC_2 HZ.out (by rw [hpk.out]; exact h1),hpk.out]; rfl,K.out⟩
  case pos =>
   have HY:=ι (hpk.out.trans h1);go_upto_region 5 with (fail);refine Rg.wl ?_;refine Rg.lm 14 (.int .i64 pk) ?_;go_frame;refine Rg.lr 15 (Rg.bn (.bool false) .neq (h:=b_neqB _ (decide_eq_false (fun e=>e h1)))) ?_;go_frame;clear h1
   by_cases h2:(xl.length:Int)=d
   case neg =>
    skip
    go_upto_region 7 with (fail);refine Rg.wl ?_;refine Rg.lm 17 (.slice xa xl.length xc) ?_;go_frame;refine Rg.lr 18 (Rg.ln Tryz.underlying30) ?_;go_frame;refine Rg.lr 19 (exec_fieldG0 _ rfl rfl) ?_;go_frame;refine Rg.lr 20 (Rg.lo (.int .i64 d) ⟨w.heap.size,0,none⟩ (run_loadInt G0.out.c0)) ?_;go_frame;refine Rg.lr 21 (Rg.bn (.bool true) .neq (h:=b_neqB _ (decide_eq_true h2))) ?_;go_frame;go_upto_region 8 with (fail);refine Rg.wl ?_;refine Rg.la 4 (.int .i64 ((10:Nat):Int)) ?_;go_frame;go_wp2;go_ret;exact ⟨by rw [rgC_3 HZ.out HY.out h2]; rfl,K.out⟩
   case pos =>
    skip
    go_upto_region 7 with (fail);refine Rg.wl ?_;refine Rg.lm 17 (.slice xa xl.length xc) ?_;go_frame;refine Rg.lr 18 (Rg.ln Tryz.underlying30) ?_;go_frame;refine Rg.lr 19 (exec_fieldG0 _ rfl rfl) ?_;go_frame;refine Rg.lr 20 (Rg.lo (.int .i64 d) ⟨w.heap.size,0,none⟩ (run_loadInt G0.out.c0)) ?_;go_frame;refine Rg.lr 21 (Rg.bn (.bool false) .neq (h:=b_neqB _ (decide_eq_false (fun e=>e h2)))) ?_;go_frame;go_upto_region 9 with (fail);refine Rg.wl ?_;refine Rg.la 4 (.int .i64 ((0:Nat):Int)) ?_;go_frame;go_wp2;go_ret;exact ⟨by rw [rgC_4 HZ.out HY.out h2]; rfl,K.out⟩
def LtV (d:Int) (ll:List (List Int)) (xl:List Int) (l:List Int) (c:Int):Prop :=
 (rgC d ll xl≠0∧c=rgC d ll xl∧l=[]) ∨
  (rgC d ll xl=0∧∃ (N:Nat) (gs:List (List Nat)) (O:List (List Nat)) (R:List (List (List Nat))) (x:List Nat),d=((N:Nat):Int)∧ll=gs.map Ma.ofN∧xl=Ma.ofN x∧Gd N x∧(∀ s∈gs,Gd N s)∧IsChain N (Cm.Gr N (·∈gs)) O R ∧
   ((5040<szD O N N∧c=5∧l=[]) ∨
   (szD O N N≤5040∧∃ st:BSt,BfE (mlets gs) N st∧((x∉st.1∧c=18∧l=[])∨(x∈st.1∧c=0∧l=wdOf st x)))))
def LtPost (d:Int) (ll:List (List Int)) (xl:List Int) (w:World) (ed:Ending) (w':World):Prop:=∃ v l c,ed=.returned (.tuple #[v,.int .i64 c])∧LtV d ll xl l c∧Rg.Ints w' v l∧Below w.heap.size w w'
theorem fcLeast_any (gv xv:Value) (d:Int) (ll:List (List Int)) (xl:List Int) (w:World) (h:Rg.Rows w gv ll) (hx:Rg.Ints w xv xl) (hd:d≤12) :
  Calls Tryz.prog 22 #[.agg #[.int .i64 d,gv],xv] w (LtPost d ll xl w):=by
 obtain ⟨xa,xc,rfl,-⟩:=hx.shape;have HX:=ι (NpI.mk hx);clear hx;obtain ⟨ga,gc,rfl,hga,hba⟩:=GI.enter (d) h;have K:=ι hba;have G0:=ι hga;clear h hga hba;obtain ⟨rk,hrk⟩:∃ c,Hid (rgC d ll xl=c):=⟨_,ι rfl⟩;replace HX:=ι (HX.out.below ((Below.refl _ _).alloc (Nat.le_refl _) (.cells #[.int .i64 d,.slice ga ll.length gc] 24)))
 go_enter Tryz.func22,Tryz.ntmps22
 go_upto_region 0 with (fail);refine Rg.wl ?_;refine Rg.lr 2 (Rg.exec_box _ _ rfl rfl) ?_;go_frame;refine Rg.la 4 (.slice none 0 0) ?_;go_frame;refine Rg.la 5 (.int .i64 0) ?_;go_frame;generalize w.alloc (.cells #[.int .i64 d,.slice ga ll.length gc] 24)=w0 at *;go_upto_region 1 with (fail);refine Rg.wl ?_;refine Rg.lr 12 (Rg.lo (.agg #[.int .i64 d,.slice ga ll.length gc]) ⟨w.heap.size,0,none⟩ (run_loadG G0.out.c0 G0.out.c1)) ?_;go_frame;refine Rg.lm 13 (.slice xa xl.length xc) ?_;go_frame;refine Rg.lk 14 (exec_fn 61 _ _ _ rfl rfl rfl (Bwcl4 _ _)) ?_;refine (fcRight_any _ _ d ll xl w0 G0.out.rows HX.out.i).mono ?_;rintro e1 w1 ⟨rfl,hb⟩;rw [hrk.out];refine ⟨_,rfl,?_⟩;go_frame;replace G0:=ι (G0.out.below hb);replace HX:=ι (HX.out.below hb);replace K:=ι (Rg.acc K.out hb);clear hb;refine Rg.la 6 (.int .i64 rk) ?_;go_frame
 by_cases h0:rk=0
 case neg =>
  skip
  go_upto_region 2 with (fail);refine Rg.wl ?_;refine Rg.lm 15 (.int .i64 rk) ?_;go_frame;refine Rg.lr 16 (Rg.bn (.bool true) .neq (h:=b_neqB _ (decide_eq_true h0))) ?_;go_frame;go_upto_region 3 with (fail);refine Rg.wl ?_;refine Rg.lm 17 (.int .i64 rk) ?_;go_frame;refine Rg.la 4 (.slice none 0 0) ?_;go_frame;refine Rg.la 5 (.int .i64 rk) ?_;go_frame;go_wp2
  go_ret2
  exact ⟨_,[],rk,rfl,.inl ⟨by rw [hrk.out]; exact h0,hrk.out.symm,rfl⟩,ints_nil _,K.out⟩
 case pos =>
  have HZ:=ι (hrk.out.trans h0);obtain ⟨hgz,x,N0,hxe,hdN,gx⟩:=rgC_get HZ.out;have HGZ:=ι hgz;have HXE:=ι hxe;have HDN:=ι hdN;have GX0:=ι gx;clear hgz hxe hdN gx;go_upto_region 2 with (fail);refine Rg.wl ?_;refine Rg.lm 15 (.int .i64 rk) ?_;go_frame;refine Rg.lr 16 (Rg.bn (.bool false) .neq (h:=b_neqB _ (decide_eq_false (fun e=>e h0)))) ?_;go_frame;clear h0;go_upto_region 4 with (fail);refine Rg.wl ?_;refine Rg.lr 19 (Rg.lo (.agg #[.int .i64 d,.slice ga ll.length gc]) ⟨w.heap.size,0,none⟩ (run_loadG G0.out.c0 G0.out.c1)) ?_;go_frame;refine Rg.lk 20 (exec_fn1 51 _ _ rfl rfl (Bmcl0 _ _)) ?_;refine (fcSearch_v _ d ll w1 G0.out.rows hd).mono ?_;rintro e1 w22 ⟨fa,fn,fc,mo,c,rfl,hsr,hb⟩;have SR:=ι hsr;clear hsr;refine ⟨_,rfl,?_⟩;go_frame;replace G0:=ι (G0.out.below hb);replace HX:=ι (HX.out.below hb);replace K:=ι (Rg.acc K.out hb);clear hb;refine Rg.lm 18 (.tuple #[.slice fa fn fc,(.map mo),.int .i64 c]) ?_;go_frame
  refine Rg.lr 21 (Rg.ex (.slice fa fn fc)) ?_;go_frame;refine Rg.lr 22 (Rg.ex ((.map mo))) ?_;go_frame;refine Rg.lr 23 (Rg.ex (.int .i64 c)) ?_;go_frame;refine Rg.la 7 (.slice fa fn fc) ?_;go_frame;refine Rg.la 8 ((.map mo)) ?_;go_frame;refine Rg.la 9 (.int .i64 c) ?_;go_frame
  rcases SR.out with ⟨h1,-,-⟩ | ⟨h1,N,gs,O,R,e1,e2,hN1,hgl,hgd,hch,⟨h2,rfl,-⟩ | ⟨h2,rfl,mb,vs,st,rfl,hbe,hbi,hl,hl1,hbf⟩⟩
  ·exact absurd HGZ.out h1
  ·skip
   have hNN:N0=N:=by have:=HDN.out; omega
   subst hNN;go_upto_region 5 with (fail);refine Rg.wl ?_;refine Rg.lm 24 (.int .i64 5) ?_;go_frame;refine Rg.lr 25 (Rg.bn (.bool true) .neq (h:=b_neqB _ (decide_eq_true (by decide)))) ?_;go_frame;go_upto_region 6 with (fail);refine Rg.wl ?_;refine Rg.lm 26 (.int .i64 5) ?_;go_frame;refine Rg.la 4 (.slice none 0 0) ?_;go_frame;refine Rg.la 5 (.int .i64 5) ?_;go_frame;go_wp2
   go_ret2
   exact ⟨_,[],5,rfl,.inr ⟨HZ.out,_,gs,O,R,x,e1,e2,HXE.out,GX0.out,hgd,hch,.inl ⟨h2,rfl,rfl⟩⟩,ints_nil _,K.out⟩
  ·skip
   have hNN:N0=N:=by have:=HDN.out; omega
   subst hNN;have HBM:=ι hbf;have HBI:=ι hbi;have HBE:=ι hbe
   have hN12:N0≤12:=by have:=HDN.out; omega
   have NX:=ι (show NpI w22 (.slice xa xl.length xc) (Ma.ofN x) from ⟨by have h9:=HX.out.i; generalize Value.slice xa xl.length xc=v9 at h9 ⊢; rw [HXE.out] at h9; exact h9⟩);obtain ⟨xn,hxn⟩:∃ n,Hid (xl.length=n):=⟨_,ι rfl⟩;clear hbf hbi hbe SR;go_upto_region 5 with (fail);refine Rg.wl ?_;refine Rg.lm 24 (.int .i64 0) ?_;go_frame;refine Rg.lr 25 (Rg.bn (.bool false) .neq (h:=b_neqB _ (decide_eq_false (by decide)))) ?_;go_frame
   by_cases hin:x∈st.1
   case neg =>
    have HNO:=ι (look_none (vs:=vs) (fun y hy=>gd_b (HBI.out.gd y hy) (by omega)) (gd_b GX0.out (by omega)) hin);go_upto_region 7 with (fail);refine Rg.wl ?_;refine Rg.lm 28 ((.map (some mb))) ?_;go_frame;refine Rg.lm 29 (.slice xa xl.length xc) ?_;go_frame;refine Rg.lk 30 (exec_fn1 56 _ _ rfl rfl (Bgcl5 _ _)) ?_;refine (key_any (x:=x) NX.out.i (by rw [GX0.out.2]; exact hN1) (by rw [GX0.out.2]; omega) (gd_b GX0.out (by omega))).mono ?_;rintro e1 w43 ⟨rfl,hb⟩;refine ⟨_,rfl,?_⟩;go_frame;replace G0:=ι (G0.out.below hb);replace HBM:=ι (HBM.out.below hb);replace NX:=ι (NX.out.below hb);replace K:=ι (Rg.acc K.out hb);clear hb;have hlk:=Sm.lookup_ok stWords HBM.out.map (keyS x);rw [HNO.out,Option.getD_none,Option.isSome_none] at hlk;refine Rg.lr 31 (Rg.exec_lookup _ _ _ _ rfl _ _ rfl rfl hlk) ?_;go_frame;clear hlk;refine Rg.lm 27 (.tuple #[(.slice none 0 0),.bool false]) ?_;go_frame
    refine Rg.lr 32 (Rg.ex ((.slice none 0 0))) ?_;go_frame;refine Rg.lr 33 (Rg.ex (.bool false)) ?_;go_frame;refine Rg.la 10 ((.slice none 0 0)) ?_;go_frame;refine Rg.la 11 (.bool false) ?_;go_frame;go_upto_region 8 with (fail);refine Rg.wl ?_;refine Rg.lm 34 (.bool false) ?_;go_frame;refine Rg.lr 35 (exec_not _ _ false rfl rfl) ?_;go_frame;go_upto_region 9 with (fail);refine Rg.wl ?_;refine Rg.la 4 (.slice none 0 0) ?_;go_frame;refine Rg.la 5 (.int .i64 ((18:Nat):Int)) ?_;go_frame;go_wp2
    go_ret2
    exact ⟨_,[],18,rfl,.inr ⟨HZ.out,_,gs,O,R,x,e1,e2,HXE.out,GX0.out,hgd,hch,.inr ⟨h2,st,HBE.out,.inl ⟨hin,rfl,rfl⟩⟩⟩,ints_nil _,K.out⟩
   case pos =>
    have hix:st.1.idxOf x<st.1.length:=List.idxOf_lt_length_of_mem hin;obtain ⟨wv,hwv⟩:∃ q,Hid (vs[st.1.idxOf x]?=some q):=⟨_,ι (List.getElem?_eq_getElem (by rw [HBM.out.vl]; exact hix))⟩
    have hwd:st.2[st.1.idxOf x]?=some (wdOf st x):=by
     have h9:st.1.idxOf x<st.2.length:=by rw [HBI.out.ln]; exact hix
     unfold wdOf;rw [List.getD_eq_getElem?_getD,List.getElem?_eq_getElem h9]; rfl
    obtain ⟨hew,wb,wo,wc,hws⟩:=HBM.out.word hwv.out hwd;subst hws;have EW:=ι hew;have HLK:=ι (look_at HBI.out.nd (fun y hy=>gd_b (HBI.out.gd y hy) (by omega)) (x:=x) (by rw [List.getElem?_eq_getElem hix,List.getElem_idxOf]) hwv.out);clear hew hwd hix;go_upto_region 7 with (fail);refine Rg.wl ?_;refine Rg.lm 28 ((.map (some mb))) ?_;go_frame;refine Rg.lm 29 (.slice xa xl.length xc) ?_;go_frame;refine Rg.lk 30 (exec_fn1 56 _ _ rfl rfl (Bgcl5 _ _)) ?_;refine (key_any (x:=x) NX.out.i (by rw [GX0.out.2]; exact hN1) (by rw [GX0.out.2]; omega) (gd_b GX0.out (by omega))).mono ?_;rintro e1 w64 ⟨rfl,hb⟩;refine ⟨_,rfl,?_⟩;go_frame;replace G0:=ι (G0.out.below hb);replace HBM:=ι (HBM.out.below hb);replace NX:=ι (NX.out.below hb);replace EW:=ι (EW.out.below hb);replace K:=ι (Rg.acc K.out hb);clear hb;have hlk:=Sm.lookup_ok stWords HBM.out.map (keyS x);rw [HLK.out,Option.getD_some,Option.isSome_some] at hlk
    refine Rg.lr 31 (Rg.exec_lookup _ _ _ _ rfl _ _ rfl rfl hlk) ?_;go_frame;clear hlk;refine Rg.lm 27 (.tuple #[.slice (some ⟨wb,wo,none⟩) (wdOf st x).length wc,.bool true]) ?_;go_frame;refine Rg.lr 32 (Rg.ex (.slice (some ⟨wb,wo,none⟩) (wdOf st x).length wc)) ?_;go_frame;refine Rg.lr 33 (Rg.ex (.bool true)) ?_;go_frame;refine Rg.la 10 (.slice (some ⟨wb,wo,none⟩) (wdOf st x).length wc) ?_;go_frame;refine Rg.la 11 (.bool true) ?_;go_frame;go_upto_region 8 with (fail);refine Rg.wl ?_;refine Rg.lm 34 (.bool true) ?_;go_frame;refine Rg.lr 35 (exec_not _ _ true rfl rfl) ?_;go_frame;go_upto_region 10 with (fail);refine Rg.wl ?_;refine Rg.lm 36 (.slice (some ⟨wb,wo,none⟩) (wdOf st x).length wc) ?_;go_frame;refine Rg.la 4 (.slice (some ⟨wb,wo,none⟩) (wdOf st x).length wc) ?_;go_frame;refine Rg.la 5 (.int .i64 ((0:Nat):Int)) ?_;go_frame;go_wp2
    go_ret2
    exact ⟨_,_,0,rfl,.inr ⟨HZ.out,_,gs,O,R,x,e1,e2,HXE.out,GX0.out,hgd,hch,.inr ⟨h2,st,HBE.out,.inr ⟨hin,rfl,rfl⟩⟩⟩,EW.out.ints,K.out⟩

def PgV (d:Int) (ll:List (List Int)) (xl:List Int) (S:List Stp) (c:Int):Prop :=
 (rgC d ll xl≠0∧c=rgC d ll xl∧S=[])∨(rgC d ll xl=0∧16<d∧c=5∧S=[]) ∨
 (rgC d ll xl=0∧d≤16∧∃ (N:Nat) (gs:List (List Nat)) (x:List Nat),d=((N:Nat):Int)∧ll=gs.map Ma.ofN∧xl=Ma.ofN x∧Gd N x∧(∀ s∈gs,Gd N s) ∧
  ((¬ Gr N (·∈gs) x∧c=18∧S=[]) ∨
   (Gr N (·∈gs) x∧c=0∧S.length≤N*N*(2*N+2)+N+2∧((S=[]∧x=Ma.oneN N)∨(S≠[]∧∃ T,rn S gs=(0,T)∧T.getD (T.length - 1) []=x)))))
def PgPost (d:Int) (ll:List (List Int)) (xl:List Int) (w:World) (ed:Ending) (w':World):Prop:=∃ v S c,ed=.returned (.tuple #[v,.int .i64 c])∧PgV d ll xl S c∧StA w' v S∧Below w.heap.size w w'
theorem StA.nil (w:World):StA w (.slice none 0 0) []:=⟨none,0,rfl,fun h=>absurd h (Nat.lt_irrefl 0)⟩
structure PrK (w:World) (F:Nat→Prop) (W:World):Prop where
 b:Below w.heap.size w W
 f:∀ k,k<w.heap.size→F k
theorem PrK.up (h:PrK w F W) (hb:Below W.heap.size W W'):PrK w (Fup F W W') W':=⟨h.b.trans (hb.mono h.b.size),fun k hk=>.inl (h.f k hk)⟩
theorem PrK.below (h:PrK w F W) (hb:Below W.heap.size W W'):PrK w F W':=⟨h.b.trans (hb.mono h.b.size),h.f⟩
theorem PrK.kg (h:PrK w F W) (hk:KG F W F' W'):PrK w F' W':=⟨h.b.trans (hk.kf.below h.b.size h.f),fun k q=>hk.sub k (h.f k q)⟩
structure OwE (B:Nat) (W:World) (uv:Value) (n:Nat) (us:List Value):Prop where
 r:W.ownsRow B 110 1 uv n us
theorem OwE.below {us:List Value} (h:OwE B W uv n us) (hb:Below W.heap.size W W'):OwE B W' uv n us:=⟨Rg.row_below h.r hb⟩
structure BlF (w0 W:World):Prop where
 b:Below w0.heap.size w0 W
theorem BlF.below (h:BlF w0 W) (hb:Below W.heap.size W W'):BlF w0 W':=⟨Rg.acc h.b hb⟩
theorem frows_all {ll:List (List Int)} (h:Rg.Rows w v ll):Rg.FRows (fun k=>k<w.heap.size) w v ll:=by
 obtain ⟨us,h1,h2⟩:=h
 have hv:∀ {u:Value} {us:List Value},Rg.Vals w u us→Rg.FVals (fun k=>k<w.heap.size) w u us:=fun {u us} h=>by
  obtain ⟨a,cap,q1,q2,q3,q4,q5⟩:=h;refine ⟨a,cap,q1,q2,q3,q4,fun h0=>?_⟩;obtain ⟨b,o,e1,e2,e3⟩:=q5 h0;exact ⟨b,o,e1,e2,e2,e3⟩
 exact ⟨us,hv h1,h2.1,fun i a b=>hv (h2.2 i a b)⟩
theorem fp_all {x:List Nat} (h:Rg.NP w v x):FP (fun k=>k<w.heap.size) w v x:=by
 obtain ⟨a,cap,q1,q2,q3,q4,q5⟩:=h;refine ⟨a,cap,q1,q2,q3,q4,fun h0=>?_⟩;obtain ⟨b,o,e1,e2,e3⟩:=q5 h0;exact ⟨b,o,e1,e2,e2,e3⟩
theorem tbInit (W:World) (nx N:Nat) (t1 t2:TypeId):∃ F,TbM W.heap.size F (W.alloc (.map #[] 0)).heap.size W.heap.size N
   ((((W.alloc (.map #[] 0)).alloc (.cells #[.slice none 0 0,.int .i64 ((nx:Nat):Int),.int .i64 ((N:Nat):Int),.map (some W.heap.size),.slice none 0 0] t1)).alloc (.cells #[.pointer none] t2)).setCell ⟨((W.alloc (.map #[] 0)).alloc (.cells #[.slice none 0 0,.int .i64 ((nx:Nat):Int),.int .i64 ((N:Nat):Int),.map (some W.heap.size),.slice none 0 0] t1)).heap.size,0,none⟩ (.pointer (some ⟨(W.alloc (.map #[] 0)).heap.size,0,none⟩)))
   [] nx [] [] [] (.slice none 0 0) (.slice none 0 0) ∧
  CF F ((((W.alloc (.map #[] 0)).alloc (.cells #[.slice none 0 0,.int .i64 ((nx:Nat):Int),.int .i64 ((N:Nat):Int),.map (some W.heap.size),.slice none 0 0] t1)).alloc (.cells #[.pointer none] t2)).setCell ⟨((W.alloc (.map #[] 0)).alloc (.cells #[.slice none 0 0,.int .i64 ((nx:Nat):Int),.int .i64 ((N:Nat):Int),.map (some W.heap.size),.slice none 0 0] t1)).heap.size,0,none⟩ (.pointer (some ⟨(W.alloc (.map #[] 0)).heap.size,0,none⟩)))
   ((W.alloc (.map #[] 0)).alloc (.cells #[.slice none 0 0,.int .i64 ((nx:Nat):Int),.int .i64 ((N:Nat):Int),.map (some W.heap.size),.slice none 0 0] t1)).heap.size 0 (.pointer (some ⟨(W.alloc (.map #[] 0)).heap.size,0,none⟩)) ∧
  (∀ k,k<W.heap.size→F k)∧Below W.heap.size W ((((W.alloc (.map #[] 0)).alloc (.cells #[.slice none 0 0,.int .i64 ((nx:Nat):Int),.int .i64 ((N:Nat):Int),.map (some W.heap.size),.slice none 0 0] t1)).alloc (.cells #[.pointer none] t2)).setCell ⟨((W.alloc (.map #[] 0)).alloc (.cells #[.slice none 0 0,.int .i64 ((nx:Nat):Int),.int .i64 ((N:Nat):Int),.map (some W.heap.size),.slice none 0 0] t1)).heap.size,0,none⟩ (.pointer (some ⟨(W.alloc (.map #[] 0)).heap.size,0,none⟩))):=by
 have hm:=Jm.KMap.new W;have hb1:Below W.heap.size W (W.alloc (.map #[] 0)):=(Below.refl _ _).alloc (Nat.le_refl _) _
 have e1:(W.alloc (.map #[] 0)).heap.size=W.heap.size+1:=by simp
 generalize W.alloc (.map #[] 0)=W1 at *;have hb2:Below W1.heap.size W1 (W1.alloc (.cells #[.slice none 0 0,.int .i64 ((nx:Nat):Int),.int .i64 ((N:Nat):Int),.map (some W.heap.size),.slice none 0 0] t1)):=(Below.refl _ _).alloc (Nat.le_refl _) _
 have e2:(W1.alloc (.cells #[.slice none 0 0,.int .i64 ((nx:Nat):Int),.int .i64 ((N:Nat):Int),.map (some W.heap.size),.slice none 0 0] t1)).heap.size=W1.heap.size+1:=by simp
 have hc:∀ o (u:Value),(#[.slice none 0 0,.int .i64 ((nx:Nat):Int),.int .i64 ((N:Nat):Int),.map (some W.heap.size),.slice none 0 0]:Array Value)[o]?=some u→Cw (W1.alloc (.cells #[.slice none 0 0,.int .i64 ((nx:Nat):Int),.int .i64 ((N:Nat):Int),.map (some W.heap.size),.slice none 0 0] t1)) W1.heap.size o u:=fun o u e=>⟨by rw [Rg.cellNew]; exact e,frozenNewN _ _ _ o _,by simp⟩;have h0:=hc 0 _ rfl;have h1:=hc 1 _ rfl;have h2:=hc 2 _ rfl;have h3:=hc 3 _ rfl;have h4:=hc 4 _ rfl;clear hc;have hm2:=hm.below hb2;have hb12:=hb1.trans (hb2.mono hb1.size);generalize W1.alloc (.cells #[.slice none 0 0,.int .i64 ((nx:Nat):Int),.int .i64 ((N:Nat):Int),.map (some W.heap.size),.slice none 0 0] t1)=W2 at *
 have hT:TbM W.heap.size (fun k=>k<W.heap.size) W1.heap.size W.heap.size N W2 [] nx [] [] [] (.slice none 0 0) (.slice none 0 0):=by
  refine ⟨fun k hk=>Nat.lt_of_lt_of_le hk hb12.size,h0,h1,h2,h3,h4,Own3.nil _ _,World.ownsRow_nil _ _ _ _,hm2,fun e he=>(by cases he),?_,⟨by omega,fun e=>(by cases e),fun e=>(by cases e),fun e=>(by cases e),fun e=>(by cases e),fun k e=>(by cases e),fun e he=>(by cases he),fun e he=>(by cases he),fun e he=>(by cases he),fun e he=>(by cases he),List.nodup_nil⟩,hb12.size⟩
  rintro k hk (e | e | e | e | ⟨e,he,_⟩)
  ·omega
  ·omega
  ·cases e
  ·cases e
  ·cases he
 have c0:(W2.alloc (.cells #[.pointer none] t2)).cell? ⟨W2.heap.size,0,none⟩=some (.pointer none):=by rw [Rg.cellNew]; rfl
 have hb3:Below W2.heap.size W2 ((W2.alloc (.cells #[.pointer none] t2)).setCell ⟨W2.heap.size,0,none⟩ (.pointer (some ⟨W1.heap.size,0,none⟩))):=((Below.refl _ _).alloc (Nat.le_refl _) _).setCell (p:=⟨W2.heap.size,0,none⟩) (Nat.le_refl _) _
 have hlt:W2.heap.size<((W2.alloc (.cells #[.pointer none] t2)).setCell ⟨W2.heap.size,0,none⟩ (.pointer (some ⟨W1.heap.size,0,none⟩))).heap.size:=by simp [World.setCell]
 exact ⟨_,hT.up hb3,⟨World.cell?_setCell_same (h:=c0) ..,.inr ⟨Nat.le_refl _,hlt⟩,hlt⟩,fun k hk=>.inl hk,hb12.trans (hb3.mono hb12.size)⟩
theorem sift_p {tb:Nat} {S:List Stp} {es:List En} {lv:Value} (hp:Tb N gs S T es) (h:TbM B F0 tb mb N w S nx es es es sv lv) (hn1:1≤N) (hn2:N≤64) {x:List Nat} (hx:FP F0 w xv x) (gx:Cm.Gd N x) :
  Calls Tryz.prog 65 #[.pointer (some ⟨tb,0,none⟩),xv] w fun ed w'=>∃ (uv rv:Value) (x9 y9:Int),ed=.returned (.tuple #[uv,rv,.agg #[.int .i64 x9,.int .i64 y9],.bool (decide ((Cm.sfP N (Cm.idT N (trE es)) N x).1<N))])∧OwE w.heap.size w' uv (usE es N N x).length ((usE es N N x).map enP)∧Below w.heap.size w w':=by
 refine (sift_t hp h hn1 hn2 hx gx).mono ?_;rintro e w' ⟨F',uv,rv,x9,y9,rfl,h1,h2,h3,h4,h5,h6,h7⟩;exact ⟨uv,rv,x9,y9,rfl,⟨h5⟩,h4⟩
theorem run_sliceE1 (b o m c:Nat) (h:m≤c):∃ ca:Addr,(∀ w:World,(Instr.sliceAt 102 (.slice (some ⟨b,o,none⟩) (m+1) (c+1)) (some (.int .i64 1)) none none).run Tryz.prog w=.ok (.slice (some ca) m c) w)∧(0<m→ca=⟨b,o+1,none⟩):=by
 by_cases e:c=0
 ·refine ⟨⟨b,o,none⟩,fun w=>?_,fun h=>by omega⟩
  obtain rfl:m=0:=by omega
  subst e;simp [Instr.sliceAt,Instr.slice,run_underlying Tryz.underlying102,Instr.sliceBounds,Instr.sliceBound,asIntOf,Addr.add]
 ·refine ⟨⟨b,o+1,none⟩,fun w=>?_,fun _=>rfl⟩
  simp [Instr.sliceAt,Instr.slice,run_underlying Tryz.underlying102,Instr.sliceBounds,Instr.sliceBound,asIntOf,Addr.add,e];intro hh;omega
theorem OwE.split {a:Value} {l:List Value} (h:OwE B W uv n (a :: l)):∃ g c ca,uv=.slice (some ⟨g,0,none⟩) (l.length+1) (c+1)∧n=l.length+1∧W.cell? ⟨g,0+0,none⟩=some a∧g<W.heap.size∧B≤g ∧
  (∀ w:World,(Instr.sliceAt 102 (.slice (some ⟨g,0,none⟩) (l.length+1) (c+1)) (some (.int .i64 1)) none none).run Tryz.prog w=.ok (.slice (some ca) l.length c) w)∧∀ M:Nat→Prop,¬ M g→RdV M W (some ca) l:=by
 obtain ⟨h1⟩:=h
 have hn:n=l.length+1:=by have:=h1.1; simp at this; omega
 subst hn;obtain ⟨g,c0,u,e1,e2,e3,e4⟩:=row_of h1 (k:=0) (by omega)
 have hu:u=a:=by
  rw [List.getElem?_cons_zero] at e3;exact (Option.some.inj e3).symm
 have hcap:l.length+1≤c0:=by
  obtain ⟨q1,q2⟩:=h1
  rcases q2 with ⟨q3,_⟩ | ⟨g',cap,cur,q3,_,_,q4,_⟩
  ·rw [q3] at e1; simp at e1
  ·rw [q3] at e1
   simp only [Value.slice.injEq,true_and] at e1;omega
 obtain ⟨c,rfl⟩:∃ c,c0=c+1:=⟨c0 - 1,by omega⟩;obtain ⟨ca,r1,r2⟩:=run_sliceE1 g 0 l.length c (by omega);refine ⟨g,c,ca,e1,rfl,by rw [e2,hu],e4,(World.ownsRow.lt h1 g (by rw [e1]; rfl)).1,r1,fun M hM hl=>?_⟩;refine ⟨g,0+1,by rw [r2 hl],e4,hM,fun i hi=>?_⟩;obtain ⟨g',c',u',f1,f2,f3,f4⟩:=row_of h1 (k:=i+1) (by omega);rw [e1] at f1;simp only [Value.slice.injEq,Option.some.injEq,Addr.mk.injEq,and_true,true_and] at f1;obtain ⟨rfl,_⟩:=f1;rw [show 0+1+i=0+(i+1) by omega,f2,← f3,List.getElem?_cons_succ,List.getElem?_eq_getElem hi]

theorem Dlcl1 (args:Array Value) (w:World):(callFunc 64 args).run Tryz.prog w=.ok (.enter 64 args) w:=by kernel_rfl
theorem Dlcl3 (args:Array Value) (w:World):(callFunc 66 args).run Tryz.prog w=.ok (.enter 66 args) w:=by kernel_rfl
theorem Dlcl4 (args:Array Value) (w:World):(callFunc 67 args).run Tryz.prog w=.ok (.enter 67 args) w:=by kernel_rfl
theorem fold_one (l:List En) (e:En) (he:Gd N e.x):(e :: l).foldl (fun y (e:En)=>Ma.mulN y e.x) (Ma.oneN N)=l.foldl (fun y (e:En)=>Ma.mulN y e.x) e.x:=by
 rw [List.foldl_cons,Cm.one_mul he]
theorem last_at {a:Nat} {x:List Nat} (h:T[a]?=some x) (ha:a+1=T.length):T.getD (T.length - 1) []=x:=by
 have e:T.length - 1=a:=by omega
 rw [e,List.getD_eq_getElem?_getD,h]; rfl
theorem pg_bd {s:Nat} (h1:m≤N*N) (h2:s≤m*(2*N+2)):s≤N*N*(2*N+2):=Nat.le_trans h2 (Nat.mul_le_mul_right _ h1)
theorem fcProgram_any (gv xv:Value) (d:Int) (ll:List (List Int)) (xl:List Int) (w:World) (h:Rg.Rows w gv ll) (hx:Rg.Ints w xv xl) :
  Calls Tryz.prog 28 #[.agg #[.int .i64 d,gv],xv] w (PgPost d ll xl w):=by
 obtain ⟨xa,xc,rfl,-⟩:=hx.shape;have HX:=ι (NpI.mk hx);clear hx;obtain ⟨ga,gc,rfl,hga,hba⟩:=GI.enter (d) h;have K:=ι hba;have G0:=ι hga;clear h hga hba;obtain ⟨rk,hrk⟩:∃ c,Hid (rgC d ll xl=c):=⟨_,ι rfl⟩;replace HX:=ι (HX.out.below ((Below.refl _ _).alloc (Nat.le_refl _) (.cells #[.int .i64 d,.slice ga ll.length gc] 24)))
 go_enter Tryz.func28,Tryz.ntmps28
 go_upto_region 0 with (fail);refine Rg.wl ?_;refine Rg.lr 2 (Rg.exec_box _ _ rfl rfl) ?_;go_frame;refine Rg.la 4 (.slice none 0 0) ?_;go_frame;refine Rg.la 5 (.int .i64 0) ?_;go_frame;obtain ⟨gb,hgb⟩:∃ gb,w.heap.size=gb:=⟨_,rfl⟩;rw [hgb] at G0 ⊢;generalize w.alloc (.cells #[.int .i64 d,.slice ga ll.length gc] 24)=w0 at *;clear hgb;go_upto_region 1 with (fail);refine Rg.wl ?_;refine Rg.lr 14 (Rg.lo (.agg #[.int .i64 d,.slice ga ll.length gc]) ⟨gb,0,none⟩ (run_loadG G0.out.c0 G0.out.c1)) ?_;go_frame;refine Rg.lm 15 (.slice xa xl.length xc) ?_;go_frame;refine Rg.lk 16 (exec_fn 61 _ _ _ rfl rfl rfl (Bwcl4 _ _)) ?_;refine (fcRight_any _ _ d ll xl w0 G0.out.rows HX.out.i).mono ?_;rintro e1 w1 ⟨rfl,hb⟩;rw [hrk.out];refine ⟨_,rfl,?_⟩;go_frame;replace G0:=ι (G0.out.below hb);replace HX:=ι (HX.out.below hb);replace K:=ι (Rg.acc K.out hb);clear hb;refine Rg.la 6 (.int .i64 rk) ?_;go_frame
 by_cases h0:rk=0
 case neg =>
  skip
  go_upto_region 2 with (fail);refine Rg.wl ?_;refine Rg.lm 17 (.int .i64 rk) ?_;go_frame;refine Rg.lr 18 (Rg.bn (.bool true) .neq (h:=b_neqB _ (decide_eq_true h0))) ?_;go_frame;go_upto_region 3 with (fail);refine Rg.wl ?_;refine Rg.lm 19 (.int .i64 rk) ?_;go_frame;refine Rg.la 4 (.slice none 0 0) ?_;go_frame;refine Rg.la 5 (.int .i64 rk) ?_;go_frame;go_wp2
  go_ret2
  exact ⟨_,[],rk,rfl,.inl ⟨by rw [hrk.out]; exact h0,hrk.out.symm,rfl⟩,StA.nil _,K.out⟩
 case pos =>
  have HZ:=ι (hrk.out.trans h0);go_upto_region 2 with (fail);refine Rg.wl ?_;refine Rg.lm 17 (.int .i64 rk) ?_;go_frame;refine Rg.lr 18 (Rg.bn (.bool false) .neq (h:=b_neqB _ (decide_eq_false (fun e=>e h0)))) ?_;go_frame;clear h0
  by_cases hd16:16<d
  case pos =>
   skip
   go_upto_region 4 with (fail);refine Rg.wl ?_;refine Rg.lr 20 (exec_fieldG0 _ rfl rfl) ?_;go_frame;refine Rg.lr 21 (Rg.lo (.int .i64 d) ⟨gb,0,none⟩ (run_loadInt G0.out.c0)) ?_;go_frame;refine Rg.lr 22 (Rg.bn (.bool true) .gtr (h:=b_gtr _ Rg.dT)) ?_;go_frame;go_upto_region 5 with (fail);refine Rg.wl ?_;refine Rg.la 4 (.slice none 0 0) ?_;go_frame;refine Rg.la 5 (.int .i64 ((5:Nat):Int)) ?_;go_frame;go_wp2
   go_ret2
   exact ⟨_,[],5,rfl,.inr (.inl ⟨HZ.out,hd16,rfl,rfl⟩),StA.nil _,K.out⟩
  case neg =>
   obtain ⟨hgz,x,N0,hxe,hdN,gx⟩:=rgC_get HZ.out;obtain ⟨N,gs,hN,rfl,hgg,hn1,-,hgl⟩:=gchk_ok hgz
   obtain rfl:N0=N:=by omega
   subst hxe hN;have HGD:=ι (show ∀ s∈gs,Gd N0 s from fun s hs=>hgg s hs);have GX:=ι gx
   have hn2:N0≤16:=by omega
   have HD:=ι (show ((N0:Nat):Int)≤16 by omega);clear hgz hdN gx hgg hd16;go_upto_region 4 with (fail);refine Rg.wl ?_;refine Rg.lr 20 (exec_fieldG0 _ rfl rfl) ?_;go_frame;refine Rg.lr 21 (Rg.lo (.int .i64 ((N0:Nat):Int)) ⟨gb,0,none⟩ (run_loadInt G0.out.c0)) ?_;go_frame;refine Rg.lr 22 (Rg.bn (.bool false) .gtr (h:=b_gtr _ Rg.dF)) ?_;go_frame;have FR0:=ι (frows_all G0.out.rows);have FX0:=ι (fp_all (x:=x) HX.out.i);obtain ⟨F1,hTM,hC,hF1,hb1⟩:=tbInit w1 (gs.map Ma.ofN).length N0 104 98;have FR:=ι (FRows.monox (FRows.kfx FR0.out (KF.of_below hb1)) hF1);have FX:=ι ((FP.kf FX0.out (KF.of_below hb1)).mono hF1);have G1:=ι (G0.out.below hb1);have PK:=ι (show PrK w F1 _ from ⟨K.out.trans (hb1.mono K.out.size),fun k hk=>hF1 k (Nat.lt_of_lt_of_le hk K.out.size)⟩);have TM:=ι hTM;have C:=ι hC;clear hTM hC hF1 FR0 FX0 hb1;go_upto_region 6 with (fail);refine Rg.wl ?_
   refine Rg.lr 23 (exec_fieldG _ rfl rfl) ?_;go_frame;refine Rg.lr 24 (Rg.lo (.slice ga (gs.map Ma.ofN).length gc) ⟨gb,1,none⟩ (Rg.run_loadSl _ _ Tryz.underlying22 G0.out.c1)) ?_;go_frame;refine Rg.lr 25 (Rg.ln Tryz.underlying22) ?_;go_frame;refine Rg.lr 26 (exec_buildRc _ rfl rfl) ?_;go_frame;refine Rg.lr 27 (exec_fieldG0 _ rfl rfl) ?_;go_frame;refine Rg.lr 28 (Rg.lo (.int .i64 ((N0:Nat):Int)) ⟨gb,0,none⟩ (run_loadInt G0.out.c0)) ?_;go_frame;refine Rg.lr 29 (exec_makeMap _ rfl) ?_;go_frame;refine Rg.lr 30 (exec_buildTb4 _ _ _ rfl rfl rfl rfl) ?_;go_frame;refine Rg.lr 31 (Rg.exec_box _ _ rfl rfl) ?_;go_frame;refine Rg.lr 7 (exec_allocTbp rfl) ?_;go_frame;refine Rg.list_skip none rfl rfl (Rg.exec_store _ _ _ rfl _ rfl _ rfl (run_storeTbp (some ⟨(w1.alloc (.map #[] 0)).heap.size,0,none⟩) (by rw [Rg.cellNew]; rfl) (frozenNewN _ _ _ 0 _))) ?_;go_frame;obtain ⟨tb,htb⟩:∃ b,b=(w1.alloc (.map #[] 0)).heap.size:=⟨_,rfl⟩
   obtain ⟨tp,htp⟩:∃ b,b=((w1.alloc (.map #[] 0)).alloc (.cells #[.slice none 0 0,.int .i64 (((gs.map Ma.ofN).length:Nat):Int),.int .i64 ((N0:Nat):Int),.map (some w1.heap.size),.slice none 0 0] 104)).heap.size:=⟨_,rfl⟩;generalize hW4:(((w1.alloc (.map #[] 0)).alloc (.cells #[.slice none 0 0,.int .i64 (((gs.map Ma.ofN).length:Nat):Int),.int .i64 ((N0:Nat):Int),.map (some w1.heap.size),.slice none 0 0] 104)).alloc (.cells #[.pointer none] 98)).setCell ⟨((w1.alloc (.map #[] 0)).alloc (.cells #[.slice none 0 0,.int .i64 (((gs.map Ma.ofN).length:Nat):Int),.int .i64 ((N0:Nat):Int),.map (some w1.heap.size),.slice none 0 0] 104)).heap.size,0,none⟩ (.pointer (some ⟨(w1.alloc (.map #[] 0)).heap.size,0,none⟩))=W4 at *;clear hW4;rw [← htp,← htb] at C ⊢;rw [← htb,List.length_map] at TM;obtain ⟨mb,hmb⟩:∃ b,Hid (b=w1.heap.size):=⟨_,ι rfl⟩;obtain ⟨B,hB⟩:∃ b,Hid (b=w1.heap.size):=⟨_,ι rfl⟩
   have TM:=ι (show TbM B F1 tb mb N0 W4 [] gs.length [] [] [] (.slice none 0 0) (.slice none 0 0) by rw [hmb.out,hB.out]; exact TM.out);clear htb htp K G0;have FRG:=ι (show Rg.FRows F1 W4 (.slice ga gs.length gc) (gs.map Ma.ofN) by have:=FR.out; rwa [List.length_map] at this);have CG0:=ι (CL.mk G1.out.c0 G1.out.lt);have CG1:=ι (show CL W4 gb 1 (.slice ga gs.length gc) from ⟨by have:=G1.out.c1; rwa [List.length_map] at this,G1.out.lt⟩);clear FR G1;go_upto_region 7 with (fail);refine Rg.wl ?_;refine Rg.lr 32 (Rg.lo (.pointer (some ⟨tb,0,none⟩)) ⟨tp,0,none⟩ (Rg.run_loadPtr _ _ Tryz.underlying98 C.out.cell)) ?_;go_frame;refine Rg.lr 33 (Rg.lo (.agg #[.int .i64 ((N0:Nat):Int),.slice ga gs.length gc]) ⟨gb,0,none⟩ (run_loadG CG0.out.cell CG1.out.cell)) ?_;go_frame;refine Rg.lk 34 (exec_fn 64 _ _ _ rfl rfl rfl (Dlcl1 _ _)) ?_;refine (fill_t (fun s hs=>HGD.out s hs) TM.out hn1 hn2 (by omega) FRG.out).mono ?_
   rintro e1 w62 ⟨F9,sv9,lv9,S9,T9,es9,rfl,htb9,htr9,hbd9,hT9,hg9⟩;have hg9x:=hg9;have nC:=C.out.kg hg9.kg;have nX:=FP.kg FX.out hg9.kg;have TB:=ι htb9;have TR:=ι htr9;have HBD:=ι hbd9;clear htb9 htr9 hbd9;refine ⟨_,rfl,?_⟩;go_frame;replace TM:=ι hT9;replace C:=ι nC;replace FX:=ι nX;replace PK:=ι (PK.out.kg hg9.kg);clear hg9x hT9 nC nX;clear hg9 FRG CG0 CG1;obtain ⟨A,hA⟩:∃ A,Hid (Cm.sfP N0 (Cm.idT N0 (trE es9)) N0 x=A):=⟨_,ι rfl⟩;obtain ⟨U,hU⟩:∃ U,Hid (usE es9 N0 N0 x=U):=⟨_,ι rfl⟩;obtain ⟨fb,hfb⟩:∃ b,Hid (decide (A.1<N0)=b):=⟨_,ι rfl⟩;obtain ⟨ul,hul⟩:∃ n,Hid (U.length=n):=⟨_,ι rfl⟩;have HUL:=ι (show U.length≤N0 by rw [← hU.out]; exact usE_len _ _ _ _);have HUM:=ι (show ∀ e∈U,e∈es9 from fun e he=>by rw [← hU.out] at he; exact usE_mem he);have HFEW:=ι TB.out.few
   have HLEN:=ι (show T9.length<50000 by
    have h1:=TB.out.sk.len;have h2:=TB.out.few;have h3:N0*N0≤16*16:=Nat.mul_le_mul hn2 hn2;have h4:es9.length*(2*N0+2)≤256*34:=Nat.mul_le_mul (by omega) (by omega);have h5:=HBD.out
    omega)
   have HMLT:=ι TM.out.Mlt;have TM4:=TM;have C4:=C;have K4:=PK;have BL:=ι (BlF.mk (Below.refl w62.heap.size w62));go_upto_region 8 with (fail);refine Rg.wl ?_;refine Rg.lr 36 (Rg.lo (.pointer (some ⟨tb,0,none⟩)) ⟨tp,0,none⟩ (Rg.run_loadPtr _ _ Tryz.underlying98 C.out.cell)) ?_;go_frame;refine Rg.lm 37 (.slice xa (Ma.ofN x).length xc) ?_;go_frame;refine Rg.lk 38 (exec_fn 65 _ _ _ rfl rfl rfl (Dhcl0 _ _)) ?_;refine (sift_p TB.out TM.out hn1 (by omega) FX.out GX.out).mono ?_;rintro e1 w63 ⟨uv9,rv9,x9,y9,rfl,how9,hb⟩;rw [hU.out] at how9;rw [hul.out] at how9;rw [hA.out,hfb.out];obtain ⟨ua,uc,hus⟩:=Rg.row_shape how9.r;subst hus;refine ⟨_,rfl,?_⟩;go_frame;replace TM:=ι (TM.out.below hb);replace C:=ι (C.out.below hb);replace BL:=ι (BL.out.below hb);clear hb;have UR:=ι how9;refine Rg.lm 35 (.tuple #[.slice ua ul uc,rv9,(.agg #[.int .i64 x9,.int .i64 y9]),.bool fb]) ?_;go_frame
   refine Rg.lr 39 (Rg.ex (.slice ua ul uc)) ?_;go_frame;refine Rg.lr 40 (Rg.ex (rv9)) ?_;go_frame;refine Rg.lr 41 (Rg.ex ((.agg #[.int .i64 x9,.int .i64 y9]))) ?_;go_frame;refine Rg.lr 42 (Rg.ex (.bool fb)) ?_;go_frame;obtain ⟨W2,hst,hpw,hb⟩:=Pw.fresh w63 x9 y9;refine Rg.lr 10 (exec_allocP2 rfl) ?_;go_frame;refine Rg.la 8 (.slice ua ul uc) ?_;go_frame;refine Rg.la 9 (rv9) ?_;go_frame;refine Rg.list_skip none rfl rfl (Rg.exec_store _ _ _ rfl _ rfl _ rfl hst) ?_;go_frame;refine Rg.la 11 (.bool fb) ?_;go_frame;clear hst hpw how9;replace TM:=ι (TM.out.below hb);replace C:=ι (C.out.below hb);replace BL:=ι (BL.out.below hb);replace UR:=ι (UR.out.below hb);clear hb
   cases fb with
   | true =>
    go_upto_region 9 with (fail);refine Rg.wl ?_;refine Rg.lm 43 (.bool true) ?_;go_frame;go_upto_region 10 with (fail);refine Rg.wl ?_;refine Rg.la 4 (.slice none 0 0) ?_;go_frame;refine Rg.la 5 (.int .i64 ((18:Nat):Int)) ?_;go_frame
    have HNO:=ι (show ¬ Gr N0 (·∈gs) x from fun hg=>by
     have h1:=(sfP_grp (Cm.Gr.isG (gs:=(·∈gs)) HGD.out) TR.out GX.out).2 hg;have h2:A.1<N0:=of_decide_eq_true hfb.out;rw [hA.out] at h1
     omega)
    go_wp2
    go_ret2
    exact ⟨_,[],18,rfl,.inr (.inr ⟨HZ.out,HD.out,N0,gs,x,rfl,rfl,rfl,GX.out,HGD.out,.inl ⟨HNO.out,rfl,rfl⟩⟩),StA.nil _,(K4.out.below BL.out.b).b⟩
   | false =>
    have HYES:=ι (show Gr N0 (·∈gs) x from by
     refine (sfP_grp (Cm.Gr.isG (gs:=(·∈gs)) HGD.out) TR.out GX.out).1 ?_;have h2:¬ A.1<N0:=of_decide_eq_false hfb.out;have h3:=(Cm.sfP_all TB.out.ok.rp (Nat.le_refl N0) (by omega) GX.out (fun j hj=>absurd hj (by omega))).1;rw [hA.out] at h3 ⊢
     omega)
    have HPRD:=ι (show x=U.reverse.foldl (fun y e=>Ma.mulN y e.x) (Ma.oneN N0) from by
     rw [← hU.out];refine TB.out.prod GX.out ?_
     exact (sfP_grp (Cm.Gr.isG (gs:=(·∈gs)) HGD.out) TR.out GX.out).2 HYES.out)
    go_upto_region 9 with (fail);refine Rg.wl ?_;refine Rg.lm 43 (.bool false) ?_;go_frame;have UB:=ι BL.out.b;have URB:=UR;clear TM C UR BL;go_upto_region 11 with (fail);refine Rg.wl ?_;refine Rg.lm 44 (.slice ua ul uc) ?_;go_frame;refine Rg.lk 45 (exec_fn1 66 _ _ rfl rfl (Dlcl3 _ _)) ?_;refine (reverseE (w0:=w62) URB.out.r (fun u hu=>by obtain ⟨e,_,rfl⟩:=List.mem_map.1 hu; exact ⟨_,rfl⟩) (by have:=HUL.out; have:=hul.out; omega) UB.out (Nat.le_refl _)).mono ?_;rintro e1 w84 ⟨⟨vv9,rfl⟩,how8,hb⟩;replace K4:=ι (K4.out.below hb);refine ⟨_,rfl,?_⟩;go_frame;replace TM4:=ι (TM4.out.below hb);replace C4:=ι (C4.out.below hb);clear hb;have UR:=ι (OwE.mk how8);clear how8 URB UB
    by_cases hz:ul=0
    case pos =>
     skip
     go_upto_region 12 with (fail);refine Rg.wl ?_;refine Rg.lm 46 (.slice ua ul uc) ?_;go_frame;refine Rg.lr 47 (Rg.ln Tryz.underlying102) ?_;go_frame;refine Rg.lr 48 (Rg.bn (.bool true) .eql (h:=b_eql _ Rg.dT)) ?_;go_frame;go_upto_region 13 with (fail);refine Rg.wl ?_;refine Rg.la 4 (.slice none 0 0) ?_;go_frame;refine Rg.la 5 (.int .i64 ((0:Nat):Int)) ?_;go_frame
     have HXO:=ι (show x=Ma.oneN N0 from by
      have h1:=HPRD.out;have h2:U=[]:=List.eq_nil_of_length_eq_zero (by rw [hul.out]; exact hz);rw [h2] at h1
      exact h1)
     go_wp2
     go_ret2
     exact ⟨_,[],0,rfl,.inr (.inr ⟨HZ.out,HD.out,N0,gs,x,rfl,rfl,rfl,GX.out,HGD.out,.inr ⟨HYES.out,rfl,Nat.zero_le _,.inl ⟨rfl,HXO.out⟩⟩⟩),StA.nil _,K4.out.b⟩
    case neg =>
     obtain ⟨e0,l,hel⟩:∃ e l,U.reverse=e :: l:=by
      cases hq:U.reverse with
      | nil =>
       have:=congrArg List.length hq;rw [List.length_reverse,hul.out] at this;exact absurd this hz
      | cons e l=>exact ⟨e,l,rfl⟩
     have HEL:=ι hel;replace UR:=ι (show OwE _ _ _ ul (enP e0 :: l.map enP) from by have:=UR.out; rwa [← List.map_reverse,hel] at this);obtain ⟨g,c9,ca,e1,hn9,hcell,hglt,hBg,hsl,hrd⟩:=UR.out.split;rw [List.length_map] at e1 hn9 hsl;subst hn9;simp only [Value.slice.injEq,true_and] at e1;obtain ⟨rfl,rfl⟩:=e1;have HE0:=ι (show e0∈es9 from HUM.out e0 (by rw [← List.mem_reverse,hel]; exact List.mem_cons_self ..))
     have HLM:=ι (show ∀ e∈l,e∈es9∧T9[e.at_]?=some e.x from fun e he=>by
      have h1:=HUM.out e (by rw [← List.mem_reverse,hel]; exact List.mem_cons_of_mem _ he)
      exact ⟨h1,(TB.out.en e h1).at_⟩)
     have HEO:=ι (TB.out.en e0 HE0.out);have HXF:=ι (show l.foldl (fun y (e:En)=>Ma.mulN y e.x) e0.x=x by rw [HPRD.out,hel,fold_one l e0 HEO.out.gd]);have HLL:=ι (show T9.length+l.length<100000∧l.length≤16 by have:=HLEN.out; have:=hul.out; have:=HUL.out; omega);have CP:=ι (CL.mk hcell hglt);have HSL:=ι hsl;have HGN:=ι (show ¬ tbS tb mb es9 sv9 lv9 g from fun h=>by have:=HMLT.out g h; omega);have RP:=ι (hrd _ HGN.out);obtain ⟨bE,hbE⟩:∃ b,Hid (e0.b=b):=⟨_,ι rfl⟩;obtain ⟨kE,hkE⟩:∃ b,Hid (e0.at_=b):=⟨_,ι rfl⟩
     have HCE:=ι (fun (F:Nat→Prop) (W:World) (S:List Stp) (nx:Nat) (sv:Value) (h:TbM B F tb mb N0 W S nx es9 es9 es9 sv lv9)=>show W.cell? ⟨bE,2,none⟩=some (.int .i64 ((kE:Nat):Int)) from by
      obtain ⟨_,_,q⟩:=h.en e0 HE0.out
      rw [← hbE.out,← hkE.out]; exact q.c2.c)
     have HZ1:=ι (show T9[kE]?=some e0.x by rw [← hkE.out]; exact HEO.out.at_);have HPE:=ι (show enP e0=.pointer (some ⟨bE,0,none⟩) by rw [← hbE.out]);rw [HPE.out] at CP;clear hcell hglt hBg hsl hrd hel hz UR;go_upto_region 12 with (fail);refine Rg.wl ?_;refine Rg.lm 46 (.slice (some ⟨g,0,none⟩) (l.length+1) (c9+1)) ?_;go_frame;refine Rg.lr 47 (Rg.ln Tryz.underlying102) ?_;go_frame;refine Rg.lr 48 (Rg.bn (.bool false) .eql (h:=b_eql _ Rg.dF)) ?_;go_frame;have HCP:=ι ((show Below w84.heap.size w84 w84.drew from (Below.refl _ _).drew).cell (p:=⟨g,0+0,none⟩) CP.out.lt);have HGL:=ι (Nat.lt_of_lt_of_le CP.out.lt (show Below w84.heap.size w84 w84.drew from (Below.refl _ _).drew).size);go_upto_region 14 with (fail);have hV0:Below w84.heap.size w84 w84.drew:=(Below.refl _ _).drew;replace TM4:=ι (TM4.out.up hV0);replace C4:=ι (C4.out.up hV0);replace RP:=ι (RP.out.up hV0)
     replace K4:=ι (K4.out.up hV0);generalize Fup F9 w84 w84.drew=F1 at *;clear hV0;refine Rg.Any.begin (S:=Rg.Both 10 (fun W:World=>W.cell? ⟨g,0+0,none⟩=some (.pointer (some ⟨bE,0,none⟩))∧W.cell? ⟨bE,2,none⟩=some (.int .i64 ((kE:Nat):Int))) (fun _=>True)) mix ?_;generalize w84.drew=w105 at *;have hS:∀ (l:Array Bool) W,(fun W:World=>W.cell? ⟨g,0+0,none⟩=some (.pointer (some ⟨bE,0,none⟩))∧W.cell? ⟨bE,2,none⟩=some (.int .i64 ((kE:Nat):Int))) W→Rg.Both 10 (fun W:World=>W.cell? ⟨g,0+0,none⟩=some (.pointer (some ⟨bE,0,none⟩))∧W.cell? ⟨bE,2,none⟩=some (.int .i64 ((kE:Nat):Int))) (fun _=>True) l W:=fun l W h=>⟨.inr h,trivial⟩;have hS2:∀ (l:Array Bool) W,l.getD 10 false=true→Rg.Both 10 (fun W:World=>W.cell? ⟨g,0+0,none⟩=some (.pointer (some ⟨bE,0,none⟩))∧W.cell? ⟨bE,2,none⟩=some (.int .i64 ((kE:Nat):Int))) (fun _=>True) l W:=fun l W h=>⟨.inl h,trivial⟩
     have hI:(fun W:World=>W.cell? ⟨g,0+0,none⟩=some (.pointer (some ⟨bE,0,none⟩))∧W.cell? ⟨bE,2,none⟩=some (.int .i64 ((kE:Nat):Int))) w105:=⟨HCP.out.trans CP.out.cell,HCE.out _ _ _ _ _ TM4.out⟩;refine Rg.tm 0 10 (.slice (some ⟨g,0,none⟩) (l.length+1) (c9+1)) 49 (hS _ _ hI) ?_;go_frame;refine Rg.tg 1 10 ((.slice (some ca) l.length c9)) 50 rfl rfl (.inl ⟨rfl,fun w _=>exec_slice1E (v:=.slice (some ⟨g,0,none⟩) (l.length+1) (c9+1)) _ rfl rfl (HSL.out _)⟩) (hS _ _ hI) ?_;go_frame;refine Rg.tm 2 10 (.slice (some ⟨g,0,none⟩) (l.length+1) (c9+1)) 51 (hS _ _ hI) ?_;go_frame;refine Rg.tg 3 10 (.pointer (some ⟨g,0+0,none⟩)) 52 rfl rfl (Rg.yields_index slEnts _ _ rfl rfl g (0) ((l.length+1)) (c9+1) (0) rfl rfl (by omega)) (hS _ _ hI) ?_;go_frame;refine Rg.tT 4 10 (.pointer (some ⟨bE,0,none⟩)) 53 rfl rfl (Rg.yc ⟨g,0+0,none⟩ (fun W hW=>Rg.run_loadPtr _ _ Tryz.underlying110 hW.1)) (hS _ _ hI) ?_;go_frame
     refine Rg.tg 5 10 (.pointer (some ⟨bE,0,none⟩)) 54 rfl rfl (.inl ⟨rfl,fun w _=>exec_nil _ rfl rfl⟩) (hS _ _ hI) ?_;go_frame;refine Rg.tg 6 10 (.pointer (some ⟨bE,2,none⟩)) 55 rfl rfl (.inl ⟨rfl,fun w _=>exec_field _ rfl rfl (enF2 _ _)⟩) (hS _ _ hI) ?_;go_frame;refine Rg.tT 7 10 (.int .i64 ((kE:Nat):Int)) 56 rfl rfl (Rg.yc ⟨bE,2,none⟩ (fun W hW=>run_loadInt hW.2)) (hS _ _ hI) ?_;go_frame;refine Rg.tg 8 10 ((.func (.func 68) #[] #[.pointer (some ⟨tp,0,none⟩)])) 57 rfl rfl (.inl ⟨rfl,fun w _=>exec_makeFunc 68 _ rfl rfl⟩) (hS _ _ hI) ?_;go_frame;refine Rg.Any.one (i:=9) (by kernel_rfl) (Rg.Any.ask (some 58) rfl rfl rfl _ _ (exec_fn3 67 _ _ _ _ rfl rfl rfl rfl (Dlcl4 _ _)) ?_);refine (foldTE_any (y0:=e0.x) TB.out.sk TM4.out C4.out HLM.out HZ1.out RP.out HLL.out.1).mono ?_;rintro e1 w106 ⟨F8,sv8,S8,T8,a8,rfl,ha8,hpre8,hsl8,hmk8,hae8,hT8,hg8⟩;rw [HXF.out] at ha8
     have hg8x:=hg8;have nC:=C4.out.kg hg8.kg;have HK8:=(show (fun W:World=>W.cell? ⟨g,0+0,none⟩=some (.pointer (some ⟨bE,0,none⟩))∧W.cell? ⟨bE,2,none⟩=some (.int .i64 ((kE:Nat):Int))) w106 from ⟨(World.cell?_of_block (a:=⟨g,0+0,none⟩) (hg8.kp.block g HGL.out HGN.out)).trans (HCP.out.trans CP.out.cell),HCE.out _ _ _ _ _ hT8⟩);have hI2_k:=HK8;clear hI;refine ⟨_,rfl,(hS _ _ hI2_k),?_⟩;go_frame;clear RP;replace TM4:=ι hT8;replace C4:=ι nC;replace K4:=ι (K4.out.kg hg8.kg);clear hg8x hT8 nC;refine Rg.aR 10 12 rfl rfl (Rg.xa (.int .i64 ((a8:Nat):Int)) _ rfl rfl) (hS2 _ _ rfl) ?_;go_frame;refine Rg.Any.done (by kernel_rfl) ?_ _;clear hS2;clear hS hI2_k;have MK8:=ι hmk8;have HA8:=ι ha8;have HSL8:=ι hsl8;have HAE8:=ι hae8;have HTL8:=ι (show T8.length<60000∧S8.length<60000 by have h1:=MK8.out.len; have h2:=TB.out.sk.len; have h3:=HLEN.out; have h4:=HLL.out; omega)
     have HBD8:=ι (show S8.length≤N0*N0*(2*N0+2)+N0 by
      have h1:=pg_bd HFEW.out HBD.out;have h2:=hul.out;have h3:=HUL.out
      omega)
     clear hmk8 ha8 hsl8 hae8 hpre8 hg8 HCP CP;have ht8:=HTL8.out.1
     by_cases hlast:a8+1=T8.length∧l.length≠0
     case pos =>
      obtain ⟨hl1,hl2⟩:=hlast;go_upto_region 15 with (fail);refine Rg.wl ?_;refine Rg.lm 59 (.int .i64 ((a8:Nat):Int)) ?_;go_frame;refine Rg.lr 60 (Rg.lo (.pointer (some ⟨tb,0,none⟩)) ⟨tp,0,none⟩ (Rg.run_loadPtr _ _ Tryz.underlying98 C4.out.cell)) ?_;go_frame;refine Rg.lr 61 (exec_nil _ rfl rfl) ?_;go_frame;refine Rg.lr 62 (exec_field _ rfl rfl (tblF0 _ _)) ?_;go_frame;refine Rg.lr 63 (exec_field _ rfl rfl (recF1 _ _)) ?_;go_frame;refine Rg.lr 64 (Rg.lo (.int .i64 ((T8.length:Nat):Int)) ⟨tb,1,none⟩ (run_loadInt TM4.out.h1.c)) ?_;go_frame;refine Rg.lr 65 (Rg.bn (.int .i64 (((T8.length:Nat):Int) - 1)) .sub (h:=b_sub _ (by omega) (by omega))) ?_;go_frame;refine Rg.lr 66 (Rg.bn (.bool false) .lss (h:=b_lss _ Rg.dF)) ?_;go_frame;refine Rg.lm 67 (.bool false) ?_;go_frame;refine Rg.lW 68 (Rg.xm (.slice (some ⟨g,0,none⟩) (l.length+1) (c9+1)) _ rfl rfl) ?_;go_frame;refine Rg.lW 69 (Rg.ln Tryz.underlying102) ?_;go_frame
      refine Rg.lW 70 (Rg.bn (.bool false) .eql (h:=b_eql _ Rg.dF)) ?_;go_frame;refine Rg.lr 71 (Rg.pF (.bool false)) ?_;go_frame;go_upto_region 18 with (fail);refine Rg.wl ?_;refine Rg.lr 84 (Rg.lo (.pointer (some ⟨tb,0,none⟩)) ⟨tp,0,none⟩ (Rg.run_loadPtr _ _ Tryz.underlying98 C4.out.cell)) ?_;go_frame;refine Rg.lr 85 (exec_nil _ rfl rfl) ?_;go_frame;refine Rg.lr 86 (exec_field _ rfl rfl (tblF0 _ _)) ?_;go_frame;refine Rg.lr 87 (exec_field _ rfl rfl (recF0 _ _)) ?_;go_frame;refine Rg.lr 88 (Rg.lo (sv8) ⟨tb,0,none⟩ (Rg.run_loadSl _ _ Tryz.underlying36 TM4.out.h0.c)) ?_;go_frame;refine Rg.la 4 (sv8) ?_;go_frame;refine Rg.la 5 (.int .i64 ((0:Nat):Int)) ?_;go_frame;have HFL:=ι (last_at HA8.out hl1);have HNE:=ι (show S8≠[] from fun e=>by have h1:=HSL8.out; rw [e] at h1; simp at h1; omega);go_wp2
      go_ret2
      exact ⟨_,S8,0,rfl,.inr (.inr ⟨HZ.out,HD.out,N0,gs,x,rfl,rfl,rfl,GX.out,HGD.out,.inr ⟨HYES.out,rfl,by have:=HBD8.out; omega,.inr ⟨HNE.out,T8,MK8.out.run,HFL.out⟩⟩⟩),TM4.out.st.sta,K4.out.b⟩
     case neg =>
      have HA8L:=ι (List.getElem?_eq_some_iff.1 HA8.out).1;have ha8l:=HA8L.out
      by_cases hlt:a8+1<T8.length
      case pos =>
       clear hlast;go_upto_region 15 with (fail);refine Rg.wl ?_;refine Rg.lm 59 (.int .i64 ((a8:Nat):Int)) ?_;go_frame;refine Rg.lr 60 (Rg.lo (.pointer (some ⟨tb,0,none⟩)) ⟨tp,0,none⟩ (Rg.run_loadPtr _ _ Tryz.underlying98 C4.out.cell)) ?_;go_frame;refine Rg.lr 61 (exec_nil _ rfl rfl) ?_;go_frame;refine Rg.lr 62 (exec_field _ rfl rfl (tblF0 _ _)) ?_;go_frame;refine Rg.lr 63 (exec_field _ rfl rfl (recF1 _ _)) ?_;go_frame;refine Rg.lr 64 (Rg.lo (.int .i64 ((T8.length:Nat):Int)) ⟨tb,1,none⟩ (run_loadInt TM4.out.h1.c)) ?_;go_frame;refine Rg.lr 65 (Rg.bn (.int .i64 (((T8.length:Nat):Int) - 1)) .sub (h:=b_sub _ (by omega) (by omega))) ?_;go_frame;refine Rg.lr 66 (Rg.bn (.bool true) .lss (h:=b_lss _ Rg.dT)) ?_;go_frame;refine Rg.lm 67 (.bool true) ?_;go_frame;refine Rg.lp 68 ?_;go_frame;refine Rg.lp 69 ?_;go_frame;refine Rg.lp 70 ?_;go_frame;refine Rg.lr 71 (Rg.pT (.bool true)) ?_;go_frame
       clear hlt;go_upto_region 16 with (fail);refine Rg.wl ?_;refine Rg.lr 72 (Rg.lo (.pointer (some ⟨tb,0,none⟩)) ⟨tp,0,none⟩ (Rg.run_loadPtr _ _ Tryz.underlying98 C4.out.cell)) ?_;go_frame;refine Rg.lr 73 (exec_nil _ rfl rfl) ?_;go_frame;refine Rg.lr 74 (exec_field _ rfl rfl (tblF0 _ _)) ?_;go_frame;refine Rg.lm 75 (.int .i64 ((a8:Nat):Int)) ?_;go_frame;refine Rg.lr 76 (exec_buildSi _ _ rfl rfl rfl) ?_;go_frame;refine Rg.lk 77 (exec_fn 69 _ _ _ rfl rfl rfl (Decl0 _ _)) ?_;refine (record_any TM4.out 2 ((a8:Nat):Int) 0 (by have:=HTL8.out; omega) (by have:=HTL8.out; omega)).mono ?_;rintro e1 w127 ⟨F7,sv7,rfl,hT7,hg7⟩;have hg7x:=hg7;have nC:=C4.out.kg hg7.kg;refine ⟨_,rfl,?_⟩;go_frame;replace TM4:=ι hT7;replace C4:=ι nC;replace K4:=ι (K4.out.kg hg7.kg);clear hg7x hT7 nC;refine Rg.la 13 (.int .i64 ((T8.length:Nat):Int)) ?_;go_frame;have MK7:=ι (MK8.out.inv HA8.out)
       clear hg7;go_upto_region 17 with (fail);refine Rg.wl ?_;refine Rg.lr 78 (Rg.lo (.pointer (some ⟨tb,0,none⟩)) ⟨tp,0,none⟩ (Rg.run_loadPtr _ _ Tryz.underlying98 C4.out.cell)) ?_;go_frame;refine Rg.lr 79 (exec_nil _ rfl rfl) ?_;go_frame;refine Rg.lr 80 (exec_field _ rfl rfl (tblF0 _ _)) ?_;go_frame;refine Rg.lm 81 (.int .i64 ((T8.length:Nat):Int)) ?_;go_frame;refine Rg.lr 82 (exec_buildSi _ _ rfl rfl rfl) ?_;go_frame;refine Rg.lk 83 (exec_fn 69 _ _ _ rfl rfl rfl (Decl0 _ _)) ?_;refine (record_any TM4.out 2 ((T8.length:Nat):Int) 0 (by rw [List.length_append]; have:=HTL8.out; simp; omega) (by have:=HTL8.out; omega)).mono ?_;rintro e1 w128 ⟨F6,sv6,rfl,hT6,hg6⟩;have hg6x:=hg6;have nC:=C4.out.kg hg6.kg;refine ⟨_,rfl,?_⟩;go_frame;replace TM4:=ι hT6;replace C4:=ι nC;replace K4:=ι (K4.out.kg hg6.kg);clear hg6x hT6 nC;have MK6:=ι (MK7.out.inv (at_last (T:=T8) (Ma.invN x)))
       clear hg6;rw [inv_twice GX.out] at MK6
       have HFL:=ι (last_at (T:=T8++[Ma.invN x]++[x]) (a:=T8.length+1) (x:=x) (by
        have h1:=at_last (T:=T8++[Ma.invN x]) x
        rwa [List.length_append,List.length_singleton] at h1) (by simp))
       go_upto_region 18 with (fail);refine Rg.wl ?_;refine Rg.lr 84 (Rg.lo (.pointer (some ⟨tb,0,none⟩)) ⟨tp,0,none⟩ (Rg.run_loadPtr _ _ Tryz.underlying98 C4.out.cell)) ?_;go_frame;refine Rg.lr 85 (exec_nil _ rfl rfl) ?_;go_frame;refine Rg.lr 86 (exec_field _ rfl rfl (tblF0 _ _)) ?_;go_frame;refine Rg.lr 87 (exec_field _ rfl rfl (recF0 _ _)) ?_;go_frame;refine Rg.lr 88 (Rg.lo (sv6) ⟨tb,0,none⟩ (Rg.run_loadSl _ _ Tryz.underlying36 TM4.out.h0.c)) ?_;go_frame;refine Rg.la 4 (sv6) ?_;go_frame;refine Rg.la 5 (.int .i64 ((0:Nat):Int)) ?_;go_frame;go_wp2
       go_ret2
       exact ⟨_,_,0,rfl,.inr (.inr ⟨HZ.out,HD.out,N0,gs,x,rfl,rfl,rfl,GX.out,HGD.out,.inr ⟨HYES.out,rfl,by rw [List.length_append,List.length_append]; have:=HBD8.out; simp; omega,.inr ⟨by simp,_,MK6.out.run,HFL.out⟩⟩⟩),TM4.out.st.sta,K4.out.b⟩
      case neg =>
       have hl0:l.length=0:=by
        have h1:a8+1=T8.length:=by omega
        have h2:¬ l.length≠0:=fun h=>hlast ⟨h1,h⟩;omega
       clear hlast;go_upto_region 15 with (fail);refine Rg.wl ?_;refine Rg.lm 59 (.int .i64 ((a8:Nat):Int)) ?_;go_frame;refine Rg.lr 60 (Rg.lo (.pointer (some ⟨tb,0,none⟩)) ⟨tp,0,none⟩ (Rg.run_loadPtr _ _ Tryz.underlying98 C4.out.cell)) ?_;go_frame;refine Rg.lr 61 (exec_nil _ rfl rfl) ?_;go_frame;refine Rg.lr 62 (exec_field _ rfl rfl (tblF0 _ _)) ?_;go_frame;refine Rg.lr 63 (exec_field _ rfl rfl (recF1 _ _)) ?_;go_frame;refine Rg.lr 64 (Rg.lo (.int .i64 ((T8.length:Nat):Int)) ⟨tb,1,none⟩ (run_loadInt TM4.out.h1.c)) ?_;go_frame;refine Rg.lr 65 (Rg.bn (.int .i64 (((T8.length:Nat):Int) - 1)) .sub (h:=b_sub _ (by omega) (by omega))) ?_;go_frame;refine Rg.lr 66 (Rg.bn (.bool false) .lss (h:=b_lss _ Rg.dF)) ?_;go_frame;refine Rg.lm 67 (.bool false) ?_;go_frame;refine Rg.lW 68 (Rg.xm (.slice (some ⟨g,0,none⟩) (l.length+1) (c9+1)) _ rfl rfl) ?_;go_frame;refine Rg.lW 69 (Rg.ln Tryz.underlying102) ?_;go_frame
       refine Rg.lW 70 (Rg.bn (.bool true) .eql (h:=b_eql _ Rg.dT)) ?_;go_frame;refine Rg.lr 71 (Rg.pF (.bool true)) ?_;go_frame;clear hlt;go_upto_region 16 with (fail);refine Rg.wl ?_;refine Rg.lr 72 (Rg.lo (.pointer (some ⟨tb,0,none⟩)) ⟨tp,0,none⟩ (Rg.run_loadPtr _ _ Tryz.underlying98 C4.out.cell)) ?_;go_frame;refine Rg.lr 73 (exec_nil _ rfl rfl) ?_;go_frame;refine Rg.lr 74 (exec_field _ rfl rfl (tblF0 _ _)) ?_;go_frame;refine Rg.lm 75 (.int .i64 ((a8:Nat):Int)) ?_;go_frame;refine Rg.lr 76 (exec_buildSi _ _ rfl rfl rfl) ?_;go_frame;refine Rg.lk 77 (exec_fn 69 _ _ _ rfl rfl rfl (Decl0 _ _)) ?_;refine (record_any TM4.out 2 ((a8:Nat):Int) 0 (by have:=HTL8.out; omega) (by have:=HTL8.out; omega)).mono ?_;rintro e1 w147 ⟨F7,sv7,rfl,hT7,hg7⟩;have hg7x:=hg7;have nC:=C4.out.kg hg7.kg;refine ⟨_,rfl,?_⟩;go_frame;replace TM4:=ι hT7;replace C4:=ι nC;replace K4:=ι (K4.out.kg hg7.kg)
       clear hg7x hT7 nC;refine Rg.la 13 (.int .i64 ((T8.length:Nat):Int)) ?_;go_frame;have MK7:=ι (MK8.out.inv HA8.out);clear hg7;go_upto_region 17 with (fail);refine Rg.wl ?_;refine Rg.lr 78 (Rg.lo (.pointer (some ⟨tb,0,none⟩)) ⟨tp,0,none⟩ (Rg.run_loadPtr _ _ Tryz.underlying98 C4.out.cell)) ?_;go_frame;refine Rg.lr 79 (exec_nil _ rfl rfl) ?_;go_frame;refine Rg.lr 80 (exec_field _ rfl rfl (tblF0 _ _)) ?_;go_frame;refine Rg.lm 81 (.int .i64 ((T8.length:Nat):Int)) ?_;go_frame;refine Rg.lr 82 (exec_buildSi _ _ rfl rfl rfl) ?_;go_frame;refine Rg.lk 83 (exec_fn 69 _ _ _ rfl rfl rfl (Decl0 _ _)) ?_;refine (record_any TM4.out 2 ((T8.length:Nat):Int) 0 (by rw [List.length_append]; have:=HTL8.out; simp; omega) (by have:=HTL8.out; omega)).mono ?_;rintro e1 w148 ⟨F6,sv6,rfl,hT6,hg6⟩;have hg6x:=hg6;have nC:=C4.out.kg hg6.kg;refine ⟨_,rfl,?_⟩;go_frame;replace TM4:=ι hT6
       replace C4:=ι nC;replace K4:=ι (K4.out.kg hg6.kg);clear hg6x hT6 nC;have MK6:=ι (MK7.out.inv (at_last (T:=T8) (Ma.invN x)));clear hg6;rw [inv_twice GX.out] at MK6
       have HFL:=ι (last_at (T:=T8++[Ma.invN x]++[x]) (a:=T8.length+1) (x:=x) (by
        have h1:=at_last (T:=T8++[Ma.invN x]) x
        rwa [List.length_append,List.length_singleton] at h1) (by simp))
       go_upto_region 18 with (fail);refine Rg.wl ?_;refine Rg.lr 84 (Rg.lo (.pointer (some ⟨tb,0,none⟩)) ⟨tp,0,none⟩ (Rg.run_loadPtr _ _ Tryz.underlying98 C4.out.cell)) ?_;go_frame;refine Rg.lr 85 (exec_nil _ rfl rfl) ?_;go_frame;refine Rg.lr 86 (exec_field _ rfl rfl (tblF0 _ _)) ?_;go_frame;refine Rg.lr 87 (exec_field _ rfl rfl (recF0 _ _)) ?_;go_frame;refine Rg.lr 88 (Rg.lo (sv6) ⟨tb,0,none⟩ (Rg.run_loadSl _ _ Tryz.underlying36 TM4.out.h0.c)) ?_;go_frame;refine Rg.la 4 (sv6) ?_;go_frame;refine Rg.la 5 (.int .i64 ((0:Nat):Int)) ?_;go_frame;go_wp2
       go_ret2
       exact ⟨_,_,0,rfl,.inr (.inr ⟨HZ.out,HD.out,N0,gs,x,rfl,rfl,rfl,GX.out,HGD.out,.inr ⟨HYES.out,rfl,by rw [List.length_append,List.length_append]; have:=HBD8.out; simp; omega,.inr ⟨by simp,_,MK6.out.run,HFL.out⟩⟩⟩),TM4.out.st.sta,K4.out.b⟩
end Go.Proofs.YtdnmmibchbceeaaGreat

namespace Go.Proofs.YtdnmmibchbceeaaGreat
open Go.RowKit
open Go.Proofs
open Go.Proofs.Ob
open Go.Proofs.Cm (Gd Gr IsChain ap)
def Mono (l:List (List Int)):Prop:=l.Pairwise fun a b=>a.length≤b.length
theorem fold_mono {x:List Nat} {wd:List Int}:∀ (l:List (List Nat × Int)) (st:BSt),Mono st.2→(∀ u∈st.2,u.length≤wd.length+1)→Mono (l.foldl (bfStep x wd) st).2∧∀ u∈(l.foldl (bfStep x wd) st).2,u.length≤wd.length+1
 | [],st,h1,h2=>⟨h1,h2⟩
 | y :: l,st,h1,h2=>by
  have key:Mono (bfStep x wd st y).2∧∀ u∈(bfStep x wd st y).2,u.length≤wd.length+1:=by
   unfold bfStep
   split
   ·exact ⟨h1,h2⟩
   ·refine ⟨List.pairwise_append.2 ⟨h1,by simp,fun a ha b hb=>?_⟩,fun u hu=>?_⟩
    ·rw [List.mem_singleton] at hb; subst hb
     have:=h2 a ha
     simpa using this
    ·rcases List.mem_append.1 hu with hu | hu
     ·exact h2 u hu
     ·rw [List.mem_singleton] at hu; subst hu; simp
  exact fold_mono l _ key.1 key.2
theorem bfs_mono {N:Nat} {ml:List (List Nat × Int)} (hm:∀ y∈ml,Gd N y.1):∀ i,Mono (bfs ml N i).2∧∀ w,(bfs ml N i).2[i]?=some w→∀ u∈(bfs ml N i).2,u.length≤w.length+1
 | 0=>⟨List.pairwise_singleton _ _,fun w _ u hu=>by
  have hu:u∈([[]]:List (List Int)):=hu;rw [List.mem_singleton] at hu
  rw [hu]; exact Nat.zero_le _⟩
 | i+1=>by
  obtain ⟨ih1,ih2⟩:=bfs_mono hm i;have hb:=bfs_BI (N:=N) hm i
  by_cases h:i<(bfs ml N i).1.length
  ·have e3:bfs ml N (i+1)=bfRow ml (bfs ml N i) i:=by
    show (if i<(bfs ml N i).1.length then bfRow ml (bfs ml N i) i else bfs ml N i)=_;rw [if_pos h]
   have h2:i<(bfs ml N i).2.length:=by rw [hb.ln]; exact h
   have e4:(bfs ml N i).2.getD i []=(bfs ml N i).2[i]:=by rw [List.getD_eq_getElem?_getD,List.getElem?_eq_getElem h2]; rfl
   have hf:=fold_mono (x:=(bfs ml N i).1.getD i []) (wd:=(bfs ml N i).2.getD i []) ml (bfs ml N i) ih1 (by rw [e4]; exact ih2 _ (List.getElem?_eq_getElem h2));obtain ⟨t,ht⟩:=(bfs_step_ext ml N i).2;rw [e3] at ht ⊢;refine ⟨hf.1,fun w hw u hu=>?_⟩;have h5:=hf.2 u hu;rw [e4] at h5;have hi1:i+1<(bfRow ml (bfs ml N i) i).2.length:=(List.getElem?_eq_some_iff.1 hw).1
   have h6:(bfRow ml (bfs ml N i) i).2[i]'(by omega)=(bfs ml N i).2[i]:=by
    have h7:(bfRow ml (bfs ml N i) i).2[i]?=some (bfs ml N i).2[i]:=by rw [← ht,List.getElem?_append_left h2,List.getElem?_eq_getElem h2]
    rw [List.getElem?_eq_getElem (by omega)] at h7;exact Option.some.inj h7
   have h8:=List.pairwise_iff_getElem.1 hf.1 i (i+1) (by show i<(bfRow ml (bfs ml N i) i).2.length; omega) hi1 (by omega);have h9:(bfRow ml (bfs ml N i) i).2[i+1]=w:=(List.getElem?_eq_some_iff.1 hw).2
   have h10:((bfs ml N i).2[i]).length≤w.length:=by
    rw [← h6,← h9]; exact h8
   omega
  ·have e3:bfs ml N (i+1)=bfs ml N i:=by
    show (if i<(bfs ml N i).1.length then bfRow ml (bfs ml N i) i else bfs ml N i)=_;rw [if_neg h]
   rw [e3];refine ⟨ih1,fun w hw=>?_⟩;have:=(List.getElem?_eq_some_iff.1 hw).1;rw [hb.ln] at this;omega
theorem BfE.last (hg:∀ s∈gs,Gd N s) {st:BSt} (h:BfE (mlets gs) N st) {w:List Int} (hw:st.2[st.2.length - 1]?=some w):∀ u∈st.2,u.length≤w.length:=fun u hu=>by
 obtain ⟨i,rfl,_⟩:=h;have hm:=(bfs_mono (mlets_gd hg) i).1;obtain ⟨j,hj,e⟩:=List.getElem_of_mem hu;obtain ⟨h1,h2⟩:=List.getElem?_eq_some_iff.1 hw
 by_cases q:j=(bfs (mlets gs) N i).2.length - 1
 ·subst q
  rw [← e,← h2]; exact Nat.le_refl _
 ·have:=List.pairwise_iff_getElem.1 hm j _ hj h1 (by omega)
  rw [← e,← h2]; exact this
end Go.Proofs.YtdnmmibchbceeaaGreat

namespace Go.Proofs.YtdnmmibchbceeaaGreat
open Go.RowKit
open Go.Proofs
open Go.Proofs.Ob
open Go.Proofs.Cm (Gd Gr IsChain ap)
attribute [local irreducible] Go.Calls Go.wpList
theorem clGr1 (args:Array Value) (w:World):(callFunc 60 args).run Tryz.prog w=.ok (.enter 60 args) w:=by kernel_rfl
def Gr1P (g n cap:Nat) (f:Nat→Int) (j:Nat) (w:World) (ed:Ending) (w':World):Prop:=ed=.returned (.slice (some ⟨g,0,none⟩) n cap)∧RwAt w' g n (fun i=>if i=j then f j+1 else f i)∧∀ (B':Nat) (W0:World),B'≤g→B'≤w.heap.size→Below B' W0 w→Below B' W0 w'
theorem growth1_any {bx g:Nat} {st:BSt} {f:Nat→Int} {x:List Nat} (h:RwAt w g n f) (hq:WqM B w mb st vs) (hbi:BI N st) (hN1:1≤N) (hN:N≤64) (hc:CL w bx 0 (.map (some mb))) (hx:Rg.NP w xv x) (hm:x∈st.1) (hj:(wdOf st x).length<n) (hf:-1≤f (wdOf st x).length∧f (wdOf st x).length≤100000) :
  Calls Tryz.prog 60 #[.slice (some ⟨g,0,none⟩) n cap,xv,.pointer (some ⟨bx,0,none⟩)] w (Gr1P g n cap f (wdOf st x).length w):=by
 have RW:=ι h;have HQ:=ι hq;have CB:=ι hc;have NX:=ι (NpI.mk hx);have GX:=ι (hbi.gd x hm);obtain ⟨wv,hlk,hfi⟩:=hq.get hbi hN hm;have HLK:=ι hlk;obtain ⟨wa,wc,hws,-⟩:=hfi.ints.shape;subst hws;clear h hq hbi hc hx hlk hfi hm;generalize (wdOf st x).length=j at *;have HJ:=ι hj
 go_enter Tryz.func60,Tryz.ntmps60
 go_upto_region 0 with (fail);refine Rg.wl ?_;refine Rg.la 5 (.slice none 0 0) ?_;go_frame;have hV1:Below w.heap.size w w.drew:=(Below.refl _ _).drew;replace RW:=ι (RW.out.below hV1);replace HQ:=ι (HQ.out.below hV1);replace CB:=ι (CB.out.below hV1);replace NX:=ι (NX.out.below hV1);have HSV:=ι hV1.size;have KD:=ι (fun (B':Nat) (W0:World) (hb:Below B' W0 w)=>hb.drew);have CJ:=ι (CL.mk (RW.out.2.1 j HJ.out) RW.out.1);rw [← Nat.zero_add j] at CJ;clear hV1;go_upto_region 1 with (fail);have hV0:Below w.heap.size w w.drew:=(Below.refl _ _).drew;generalize Fup (fun _:Nat=>True) w w.drew=F1 at *;clear hV0;refine Rg.Any.begin (S:=Rg.Both 10 (fun W=>Below w.drew.heap.size w.drew W) (fun _=>True)) mix ?_;generalize w.drew=w1 at *;have hS:∀ (l:Array Bool) W,Below w1.heap.size w1 W→Rg.Both 10 (fun W=>Below w1.heap.size w1 W) (fun _=>True) l W:=fun l W h=>⟨.inr h,trivial⟩
 have hS2:∀ (l:Array Bool) W,l.getD 10 false=true→Rg.Both 10 (fun W=>Below w1.heap.size w1 W) (fun _=>True) l W:=fun l W h=>⟨.inl h,trivial⟩;have hI:Below w1.heap.size w1 w1:=Below.refl _ _;refine Rg.tm 0 10 (.slice (some ⟨g,0,none⟩) n cap) 6 (hS _ _ hI) ?_;go_frame;refine Rg.tT 1 10 ((.map (some mb))) 7 rfl rfl (Rg.yc ⟨bx,0,none⟩ (fun W hW=>run_loadMW ((Below.cell (p:=⟨bx,0,none⟩) hW CB.out.lt).trans CB.out.cell))) (hS _ _ hI) ?_;go_frame;refine Rg.tm 2 10 (xv) 8 (hS _ _ hI) ?_;go_frame;refine Rg.Any.one (i:=3) (by kernel_rfl) (Rg.Any.ask (some 9) rfl rfl rfl _ _ (exec_fn1 56 _ _ rfl rfl (Bgcl5 _ _)) ?_);refine (key_any NX.out.i (by rw [GX.out.2]; exact hN1) (by rw [GX.out.2]; exact hN) (gd_b GX.out hN)).mono ?_;rintro e1 w2 ⟨rfl,hb⟩;have hI2_u:=Rg.acc hI hb;clear hI;generalize Fup F1 w1 w2=F2 at *;clear hb;refine ⟨_,rfl,(hS _ _ hI2_u),?_⟩;go_frame
 have hlk:=Sm.lookup_no stWords (HQ.out.map.below hI2_u) (keyS x);rw [HLK.out,Option.getD_some] at hlk;refine Rg.aR 4 10 rfl rfl (Rg.exec_lookup _ _ _ _ rfl _ _ rfl rfl hlk) (hS _ _ hI2_u) ?_;go_frame;refine Rg.tg 5 10 (.int .i64 ((j:Nat):Int)) 11 rfl rfl (.inl ⟨rfl,fun w _=>exec_len _ _ _ rfl Tryz.underlying26 _ _ _ rfl⟩) (hS _ _ hI2_u) ?_;go_frame;refine Rg.tg 6 10 (.pointer (some ⟨g,0+j,none⟩)) 12 rfl rfl (Rg.yields_index slInts _ _ rfl rfl g (0) (n) cap (j) rfl rfl HJ.out) (hS _ _ hI2_u) ?_;go_frame;refine Rg.tT 7 10 (.int .i64 (f (0+j))) 13 rfl rfl (Rg.yc ⟨g,0+j,none⟩ (fun W hW=>run_loadInt ((Below.cell (p:=⟨g,0+j,none⟩) hW CJ.out.lt).trans CJ.out.cell))) (hS _ _ hI2_u) ?_;go_frame
 refine Rg.tg 8 10 (.int .i64 (f (0+j)+1)) 14 rfl rfl (.inl ⟨rfl,fun w _=>exec_bin (R:=.int .i64 (f (0+j)+1)) .add _ _ _ rfl rfl rfl (b_add _ (by first | rfl | (have:=hf.1; have:=hf.2; simp only [Nat.zero_add]; omega)) (by first | rfl | (have:=hf.1; have:=hf.2; simp only [Nat.zero_add]; omega)))⟩) (hS _ _ hI2_u) ?_;go_frame
 refine Rg.tg 9 10 (.pointer (some ⟨g,0+j,none⟩)) 15 rfl rfl (Rg.yields_index slInts _ _ rfl rfl g (0) (n) cap (j) rfl rfl HJ.out) (hS _ _ hI2_u) ?_;go_frame;have hKK:=hI2_u;have hset:=(RW.out.below hKK).set j (f (0+j)+1) HJ.out;refine Rg.Any.one (i:=10) (by kernel_rfl) (Rg.Any.runSkip none rfl rfl rfl (Rg.exec_store _ _ _ rfl _ rfl _ rfl (run_storeInt (f (0+j)+1) (show _=some (.int .i64 (f j)) from by rw [Nat.zero_add]; exact (RW.out.below hKK).2.1 j HJ.out) ((RW.out.below hKK).2.2 (0+j)))) (hS2 _ _ rfl) ?_);go_frame;refine Rg.Any.done (by kernel_rfl) ?_ _;clear hS2;clear hS hI2_u;go_wp2;go_ret;simp only [Nat.zero_add] at hset ⊢;exact ⟨rfl,hset,fun B' W0 h1 h2 h3=>((KD.out B' W0 h3).trans (hKK.mono (Nat.le_trans h2 HSV.out))).setCell (p:=⟨g,j,none⟩) h1 _⟩

def cnL (st:BSt) (S:List (List Nat)) (i:Nat):Int:=((S.countP fun x=>decide ((wdOf st x).length=i):Nat):Int)
theorem cnL_snoc (st:BSt) (S:List (List Nat)) (x:List Nat) (i:Nat):cnL st (S++[x]) i=if i=(wdOf st x).length then cnL st S (wdOf st x).length+1 else cnL st S i:=by
 unfold cnL;rw [List.countP_append,List.countP_singleton]
 by_cases e:i=(wdOf st x).length
 ·subst e; simp
 ·rw [if_neg e,if_neg (by simpa using fun h=>e h.symm)]; simp
theorem cnL_le (st:BSt) (S:List (List Nat)) (i:Nat):0≤cnL st S i∧cnL st S i≤(S.length:Int):=by
 unfold cnL;have:=List.countP_le_length (p:=fun x=>decide ((wdOf st x).length=i)) (l:=S);omega
theorem foldG_any {bx:Nat} {st:BSt} {S:List (List Nat)} (hr:Rg.Rows w0 xv (S.map Ma.ofN)) (hS:∀ x∈S,x∈st.1∧(wdOf st x).length<n) (hl:S.length≤5040) (hq:WqM B w0 mb st vs) (hbi:BI N st) (hN1:1≤N) (hN:N≤64) (hc:CL w0 bx 0 (.map (some mb))) (hk:Below w0.heap.size w0 w) (hw:RwAt w w0.heap.size n (fun _=>0)) :
  Calls Tryz.prog 59 #[xv,.slice (some ⟨w0.heap.size,0,none⟩) n cap,(.func (.func 60) #[] #[.pointer (some ⟨bx,0,none⟩)])] w fun ed w'=>ed=.returned (.slice (some ⟨w0.heap.size,0,none⟩) n cap)∧RwAt w' w0.heap.size n (cnL st S)∧Below w0.heap.size w0 w':=by
 obtain ⟨xa,xc,e0,-⟩:=hr.shape;obtain ⟨m,hm⟩:∃ m,Hid (S.length=m):=⟨_,ι rfl⟩;rw [List.length_map,hm.out] at e0;subst e0;have HR:=ι hr;have HS:=ι hS;have HQ0:=ι hq;have HBI:=ι hbi;have CB0:=ι hc
 have hm5:m≤5040:=by rw [← hm.out]; exact hl
 have RW0:=ι (show RwAt w w0.heap.size n (cnL st (S.take 0)) from hw);have K0:=ι hk;obtain ⟨g,hg⟩:∃ g,Hid (w0.heap.size=g):=⟨_,ι rfl⟩;rw [hg.out] at RW0 ⊢;clear hr hS hq hbi hc hl hk hw
 go_enter Tryz.func59,Tryz.ntmps59
 go_upto_region 0 with (fail);refine Rg.wl ?_;refine Rg.la 6 (.slice none 0 0) ?_;go_frame;go_upto_region 1 with (fail);refine Rg.wl ?_;refine Rg.lm 9 (.slice xa m xc) ?_;go_frame;refine Rg.lr 10 (Rg.ln Tryz.underlying22) ?_;go_frame;refine Rg.lm 11 (.int .i64 ((0:Nat):Int)) ?_;go_frame;go_wp2
 go_loopw [1,11] (fun vv iv wr=>∃ i:Nat,vv=.slice (some ⟨g,0,none⟩) n cap∧iv=.int .i64 ((i:Nat):Int)∧i≤m∧Hid (RwAt wr g n (cnL st (S.take i)))∧Hid (Below w0.heap.size w0 wr)) (fun _ iv _=>m - (intOf iv).toNat)
 case atStart=>exact ⟨0,rfl,rfl,Nat.zero_le _,RW0,K0⟩
 case round =>
  clear RW0 K0;obtain ⟨i,rfl,rfl,hi,RW,K⟩:=hrel
  by_cases hil:i<m
  case neg =>
   have HT:=ι (show S.take i=S from List.take_of_length_le (by have:=hm.out; omega));go_upto_region 2 with (fail);refine Rg.wl ?_;refine Rg.lr 12 (Rg.bn (.bool false) .lss (h:=b_lss _ Rg.dF)) ?_;go_frame;go_upto_region 6 with (fail);refine Rg.wl ?_;refine Rg.lm 20 (.slice (some ⟨g,0,none⟩) n cap) ?_;go_frame;refine Rg.la 6 (.slice (some ⟨g,0,none⟩) n cap) ?_;go_frame;go_wp2;go_ret;exact ⟨rfl,by have:=RW.out; rwa [HT.out] at this,by rw [← hg.out]; exact K.out⟩
  case pos =>
   have HIL:=ι hil
   have hiS:i<S.length:=by rw [hm.out]; exact hil
   obtain ⟨b,o,ua,uc,e1,hb0,hc0,hr0⟩:=rows_get HR.out (i:=i) (by rw [List.length_map]; exact hiS);subst e1;obtain ⟨x,hx⟩:∃ x,Hid (S[i]'hiS=x):=⟨_,ι rfl⟩
   have e5:((S.map Ma.ofN)[i]'(by rw [List.length_map]; exact hiS))=Ma.ofN x:=by rw [List.getElem_map,hx.out]
   rw [e5] at hc0 hr0;have CX:=ι ((CL.mk hc0 hb0).below K.out);have NX:=ι (NpI.below (NpI.mk hr0) K.out);have HQ:=ι (HQ0.out.below K.out);have CB:=ι (CB0.out.below K.out);have HXM:=ι (show x∈st.1∧(wdOf st x).length<n from hx.out▸HS.out _ (List.getElem_mem hiS))
   have HCN:=ι (show -1≤cnL st (S.take i) (wdOf st x).length∧cnL st (S.take i) (wdOf st x).length≤100000 by
    have:=cnL_le st (S.take i) (wdOf st x).length
    have h2:(S.take i).length≤5040:=by rw [List.length_take]; omega
    omega)
   have HEN:=ι (show ∀ k,(if k=(wdOf st x).length then cnL st (S.take i) (wdOf st x).length+1 else cnL st (S.take i) k)=cnL st (S.take (i+1)) k from fun k=>by rw [List.take_succ_eq_append_getElem hiS,hx.out,cnL_snoc]);clear hb0 hc0 hr0 e5;go_upto_region 2 with (fail);refine Rg.wl ?_;refine Rg.lr 12 (Rg.bn (.bool true) .lss (h:=b_lss _ Rg.dT)) ?_;go_frame;go_upto_region 3 with (fail);refine Rg.wl ?_;refine Rg.lr 13 (exec_indexS slPerms _ _ rfl b (o) (m) xc (i) rfl rfl HIL.out) ?_;go_frame;refine Rg.lr 14 (Rg.lo ((.slice ua (Ma.ofN x).length uc)) ⟨b,o+i,none⟩ (Rg.run_loadSl _ _ Tryz.underlying30 CX.out.cell)) ?_;go_frame;refine Rg.la 8 ((.slice ua (Ma.ofN x).length uc)) ?_;go_frame;go_upto_region 4 with (fail);refine Rg.wl ?_;refine Rg.lm 15 ((.func (.func 60) #[] #[.pointer (some ⟨bx,0,none⟩)])) ?_;go_frame;refine Rg.lm 16 (.slice (some ⟨g,0,none⟩) n cap) ?_;go_frame
   refine Rg.lm 17 ((.slice ua (Ma.ofN x).length uc)) ?_;go_frame;refine Rg.lk 18 (exec_fnc2 60 _ _ _ _ rfl rfl rfl rfl (clGr1 _ _)) ?_;refine (growth1_any (cap:=cap) RW.out HQ.out HBI.out hN1 hN CB.out NX.out.i HXM.out.1 HXM.out.2 HCN.out).mono ?_;rintro e1 w21 ⟨rfl,hrw,hb⟩;have RW2:=ι (RwAt.congr hrw fun k _=>HEN.out k);have K2:=ι (hb _ _ (by rw [hg.out]; exact Nat.le_refl _) K.out.size K.out);clear hrw;refine ⟨_,rfl,?_⟩;go_frame;clear hb;refine Rg.la 1 (.slice (some ⟨g,0,none⟩) n cap) ?_;go_frame;go_upto_region 5 with (fail);refine Rg.wl ?_;refine Rg.lr 19 (Rg.bn (.int .i64 (((i+1):Nat):Int)) .add (h:=b_add _ (by omega) (by omega))) ?_;go_frame;refine Rg.lm 11 (.int .i64 (((i+1):Nat):Int)) ?_;go_frame;go_wp2
   go_roundw
   case rel=>exact ⟨i+1,rfl,by go_num,HIL.out,RW2,K2⟩
   case measure=>simp [intOf]; have:=HIL.out; omega

theorem Dtcl2 (args:Array Value) (w:World):(callFunc 59 args).run Tryz.prog w=.ok (.enter 59 args) w:=by kernel_rfl
theorem RwAt.intsL {g:Nat} {f:Nat→Int} (h:RwAt w g n f) (hc:n≤cap) (hm:cap≤maxLen) (hn:n≤1000000):Rg.Ints w (.slice (some ⟨g,0,none⟩) n cap) ((List.range n).map f):=by
 refine Rg.Ints.mk (by simp) h.1 (by simpa using hc) hm (by simp; omega) fun i hi=>?_
 have hi':i<n:=by simpa using hi
 rw [Nat.zero_add,h.2.1 i hi'];simp
def GrV (d:Int) (ll:List (List Int)) (l:List Int) (c:Int):Prop :=
 (Ma.gchk d ll≠0∧c=Ma.gchk d ll∧l=[]) ∨
  (Ma.gchk d ll=0∧∃ (N:Nat) (gs:List (List Nat)) (O:List (List Nat)) (R:List (List (List Nat))),d=((N:Nat):Int)∧ll=gs.map Ma.ofN∧1≤N∧(∀ s∈gs,Gd N s)∧IsChain N (Cm.Gr N (·∈gs)) O R ∧
   ((5040<szD O N N∧c=5∧l=[]) ∨
   (szD O N N≤5040∧c=0∧∃ (st:BSt) (wl:List Int),BfE (mlets gs) N st∧st.2[st.2.length - 1]?=some wl∧l=(List.range (wl.length+1)).map (cnL st st.1))))
def GrPost (d:Int) (ll:List (List Int)) (w:World) (ed:Ending) (w':World):Prop:=∃ v l c,ed=.returned (.tuple #[v,.int .i64 c])∧GrV d ll l c∧Rg.Ints w' v l∧Below w.heap.size w w'
theorem fcGrowth_any (gv:Value) (d:Int) (ll:List (List Int)) (w:World) (h:Rg.Rows w gv ll) (hd:d≤12) :
  Calls Tryz.prog 20 #[.agg #[.int .i64 d,gv]] w (GrPost d ll w):=by
 obtain ⟨ga,gc,rfl,hga,hba⟩:=GI.enter (d) h;have K:=ι hba;have G0:=ι hga;clear h hga hba
 go_enter Tryz.func20,Tryz.ntmps20
 go_upto_region 0 with (fail);refine Rg.wl ?_;refine Rg.lr 1 (Rg.exec_box _ _ rfl rfl) ?_;go_frame;refine Rg.la 2 (.slice none 0 0) ?_;go_frame;refine Rg.la 3 (.int .i64 0) ?_;go_frame;obtain ⟨gb,hgb⟩:∃ gb,w.heap.size=gb:=⟨_,rfl⟩;rw [hgb] at G0 ⊢;generalize w.alloc (.cells #[.int .i64 d,.slice ga ll.length gc] 24)=w0 at *;clear hgb;go_upto_region 1 with (fail);refine Rg.wl ?_;refine Rg.lr 9 (Rg.lo (.agg #[.int .i64 d,.slice ga ll.length gc]) ⟨gb,0,none⟩ (run_loadG G0.out.c0 G0.out.c1)) ?_;go_frame;refine Rg.lk 10 (exec_fn1 51 _ _ rfl rfl (Bmcl0 _ _)) ?_;refine (fcSearch_v _ d ll w0 G0.out.rows hd).mono ?_;rintro e1 w1 ⟨fa,fn,fc,mo,c,rfl,hsr,hb⟩;have SR:=ι hsr;clear hsr;refine ⟨_,rfl,?_⟩;go_frame;replace G0:=ι (G0.out.below hb);replace K:=ι (Rg.acc K.out hb);clear hb;refine Rg.lm 8 (.tuple #[.slice fa fn fc,(.map mo),.int .i64 c]) ?_;go_frame;refine Rg.lr 11 (Rg.ex (.slice fa fn fc)) ?_;go_frame
 refine Rg.lr 12 (Rg.ex ((.map mo))) ?_;go_frame;refine Rg.lr 13 (Rg.ex (.int .i64 c)) ?_;go_frame;refine Rg.lr 5 (exec_allocMW rfl) ?_;go_frame;refine Rg.la 4 (.slice fa fn fc) ?_;go_frame;refine Rg.list_skip none rfl rfl (Rg.exec_store _ _ _ rfl _ rfl _ rfl (run_storeMW _ (by rw [Rg.cellNew]; rfl) (frozenNewN _ _ _ 0 _))) ?_;go_frame;have hbx:=boxMW w1 mo 76;have HKS:=ι hbx.2;have hb:=hbx.2;generalize (w1.alloc (.cells #[.map none] 76)).setCell ⟨w1.heap.size,0,none⟩ (.map mo)=w2 at *;replace G0:=ι (G0.out.below hb);replace K:=ι (Rg.acc K.out hb);clear hb;have CB:=ι hbx.1;clear hbx;refine Rg.la 6 (.int .i64 c) ?_;go_frame
 rcases SR.out with ⟨h1,rfl,-⟩ | ⟨h1,N,gs,O,R,rfl,rfl,hN1,hgl,hgd,hch,⟨h2,rfl,-⟩ | ⟨h2,rfl,mb,vs,st,rfl,hbe,hbi,hl,hl1,hbf⟩⟩
 ·skip
  go_upto_region 2 with (fail);refine Rg.wl ?_;refine Rg.lm 14 (.int .i64 (Ma.gchk d ll)) ?_;go_frame;refine Rg.lr 15 (Rg.bn (.bool true) .neq (h:=b_neqB _ (decide_eq_true h1))) ?_;go_frame;go_upto_region 3 with (fail);refine Rg.wl ?_;refine Rg.lm 16 (.int .i64 (Ma.gchk d ll)) ?_;go_frame;refine Rg.la 2 (.slice none 0 0) ?_;go_frame;refine Rg.la 3 (.int .i64 (Ma.gchk d ll)) ?_;go_frame;go_wp2
  go_ret2
  exact ⟨_,[],_,rfl,.inl ⟨h1,rfl,rfl⟩,ints_nil _,K.out⟩
 ·skip
  go_upto_region 2 with (fail);refine Rg.wl ?_;refine Rg.lm 14 (.int .i64 5) ?_;go_frame;refine Rg.lr 15 (Rg.bn (.bool true) .neq (h:=b_neqB _ (decide_eq_true (by decide)))) ?_;go_frame;go_upto_region 3 with (fail);refine Rg.wl ?_;refine Rg.lm 16 (.int .i64 5) ?_;go_frame;refine Rg.la 2 (.slice none 0 0) ?_;go_frame;refine Rg.la 3 (.int .i64 5) ?_;go_frame;go_wp2
  go_ret2
  exact ⟨_,[],_,rfl,.inr ⟨h1,N,gs,O,R,rfl,rfl,hN1,hgd,hch,.inl ⟨h2,rfl,rfl⟩⟩,ints_nil _,K.out⟩
 ·skip
  go_upto_region 2 with (fail);refine Rg.wl ?_;refine Rg.lm 14 (.int .i64 0) ?_;go_frame;refine Rg.lr 15 (Rg.bn (.bool false) .neq (h:=b_neqB _ (decide_eq_false (by decide)))) ?_;go_frame;have HBE:=ι hbe;have HBI:=ι hbi;have HBF:=ι (hbf.below HKS.out);obtain ⟨xl,hxl⟩:∃ x,Hid (st.1[st.1.length - 1]?=some x):=⟨_,ι (List.getElem?_eq_getElem (by omega))⟩;obtain ⟨wl,hwl⟩:∃ x,Hid (st.2[st.1.length - 1]?=some x):=⟨_,ι (List.getElem?_eq_getElem (by rw [HBI.out.ln]; omega))⟩;obtain ⟨wv,hwv⟩:∃ x,Hid (vs[st.1.length - 1]?=some x):=⟨_,ι (List.getElem?_eq_getElem (by rw [HBF.out.vl]; omega))⟩;obtain ⟨hew,wb,wo,wc,hws⟩:=HBF.out.word hwv.out hwl.out;subst hws;have HWL:=ι (show wl.length≤5040 from Nat.le_trans (HBI.out.wl wl (List.mem_of_getElem? hwl.out)) hl);have HWR:=ι (HBF.out.els.mono (F':=fun k=>k<w2.heap.size) (fun k g=>g.1));obtain ⟨fb,fo,fc9,uv,e1,hcu,heu⟩:=HBF.out.at (by omega) (i:=st.1.length - 1) (by omega) hxl.out
  have HRS:=ι (show Rg.Rows w2 (.slice fa fn fc) (st.1.map Ma.ofN) by
   obtain ⟨us,q1,q2⟩:=HBF.out.row
   exact Rg.Rows.of_row q1 (by omega) q2.1 (fun i a b=>(q2.2 i a b).ints))
  simp only [Value.slice.injEq] at e1;obtain ⟨rfl,rfl,rfl⟩:=e1;have CU:=ι hcu;have EU:=ι heu;have HLK:=ι (look_at HBI.out.nd (fun y hy=>gd_b (HBI.out.gd y hy) (by omega)) hxl.out hwv.out);have GX:=ι (HBI.out.gd xl (List.mem_of_getElem? hxl.out));have HQ:=ι (show WqM w2.heap.size w2 mb st vs from ⟨HBF.out.map,HWR.out⟩)
  have HLA:=ι (show ∀ x∈st.1,x∈st.1∧(wdOf st x).length<wl.length+1 from fun x hx=>⟨hx,by
   have q1:st.1.idxOf x<st.1.length:=List.idxOf_lt_length_of_mem hx
   have q2:st.1.idxOf x<st.2.length:=by rw [HBI.out.ln]; exact q1
   have q3:wdOf st x∈st.2:=by
    unfold wdOf;rw [List.getD_eq_getElem?_getD,List.getElem?_eq_getElem q2];exact List.getElem_mem q2
   have:=HBE.out.last hgd (w:=wl) (by rw [HBI.out.ln]; exact hwl.out) _ q3
   omega⟩)
  clear hcu heu hew hbe hbi hbf SR HWR HBF;have HR0:=ι (RsO.mk HRS.out);clear HRS;go_upto_region 4 with (fail);have hV0:Below w2.heap.size w2 w2.drew:=(Below.refl _ _).drew;replace CB:=ι (CB.out.below hV0);replace CU:=ι (CU.out.below hV0);replace EU:=ι (EU.out.below hV0);replace HQ:=ι (HQ.out.below hV0);replace HR0:=ι (HR0.out.below hV0);replace K:=ι (Rg.acc K.out hV0);clear hV0;refine Rg.Any.begin (S:=Rg.Both 9 (fun _=>True) (fun W=>Below w2.drew.heap.size w2.drew W)) mix ?_;generalize w2.drew=w3 at *;have hS:∀ (l:Array Bool) W,Below w3.heap.size w3 W→Rg.Both 9 (fun _=>True) (fun W=>Below w3.heap.size w3 W) l W:=fun l W h=>⟨.inr trivial,h⟩;have hI:Below w3.heap.size w3 w3:=Below.refl _ _;refine Rg.tg 0 9 ((.map (some mb))) 17 rfl rfl (Rg.yc ⟨w1.heap.size,0,none⟩ (fun W hW=>run_loadMW ((Below.cell (p:=⟨w1.heap.size,0,none⟩) hW CB.out.lt).trans CB.out.cell))) (hS _ _ hI) ?_;go_frame
  refine Rg.tm 1 9 (.slice (some ⟨fb,fo,none⟩) st.1.length fc) 18 (hS _ _ hI) ?_;go_frame;refine Rg.tm 2 9 (.slice (some ⟨fb,fo,none⟩) st.1.length fc) 19 (hS _ _ hI) ?_;go_frame;refine Rg.tg 3 9 (.int .i64 ((st.1.length:Nat):Int)) 20 rfl rfl (.inl ⟨rfl,fun w _=>exec_len _ _ _ rfl Tryz.underlying22 _ _ _ rfl⟩) (hS _ _ hI) ?_;go_frame;refine Rg.tg 4 9 (.int .i64 (((st.1.length - 1):Nat):Int)) 21 rfl rfl (.inl ⟨rfl,fun w _=>exec_bin (R:=.int .i64 (((st.1.length - 1):Nat):Int)) .sub _ _ _ rfl rfl rfl (b_sub _ (by omega) (by omega))⟩) (hS _ _ hI) ?_;go_frame;refine Rg.tg 5 9 (.pointer (some ⟨fb,fo+(st.1.length - 1),none⟩)) 22 rfl rfl (Rg.yields_index slPerms _ _ rfl rfl fb (fo) (st.1.length) fc ((st.1.length - 1)) rfl rfl (by omega)) (hS _ _ hI) ?_;go_frame;refine Rg.tg 6 9 (uv) 23 rfl rfl (Rg.yc ⟨fb,fo+(st.1.length - 1),none⟩ (fun W hW=>Rg.run_loadSl _ _ Tryz.underlying30 ((Below.cell (p:=⟨fb,fo+(st.1.length - 1),none⟩) hW CU.out.lt).trans CU.out.cell))) (hS _ _ hI) ?_;go_frame
  refine Rg.Any.one (i:=7) (by kernel_rfl) (Rg.Any.ask (some 24) rfl rfl rfl _ _ (exec_fn1 56 _ _ rfl rfl (Bgcl5 _ _)) ?_);refine (key_any EU.out.np (by rw [GX.out.2]; exact hN1) (by rw [GX.out.2]; omega) (gd_b GX.out (by omega))).mono ?_;rintro e1 w4 ⟨rfl,hb⟩;have hI2_0:=Rg.acc hI hb;clear hb hI;refine ⟨_,rfl,(hS _ _ hI2_0),?_⟩;go_frame;have hlk:=Sm.lookup_no stWords (HQ.out.below hI2_0).map (keyS xl);rw [HLK.out,Option.getD_some] at hlk;refine Rg.aR 8 25 rfl rfl (Rg.exec_lookup _ _ _ _ rfl _ _ rfl rfl hlk) (hS _ _ hI2_0) ?_;go_frame;refine Rg.aR 9 7 rfl rfl (Rg.xa (.slice (some ⟨wb,wo,none⟩) wl.length wc) _ rfl rfl) (hS _ _ hI2_0) ?_;go_frame;refine Rg.Any.done (by kernel_rfl) ?_ _;replace CB:=ι (CB.out.below hI2_0);replace CU:=ι (CU.out.below hI2_0);replace EU:=ι (EU.out.below hI2_0);replace HQ:=ι (HQ.out.below hI2_0);replace HR0:=ι (HR0.out.below hI2_0);replace K:=ι (Rg.acc K.out hI2_0)
  clear hS hI2_0;have hrw:=made_rowH w4 (wl.length+1);have hbw:Below w4.heap.size w4 (w4.alloc (.cells (madeCells #[.int .i64 0] (wl.length+1)) 3)):=(Below.refl _ _).alloc (Nat.le_refl _) _;have HWW:=HWL.out;go_upto_region 5 with (fail);refine Rg.wl ?_;refine Rg.lm 26 (.slice (some ⟨fb,fo,none⟩) st.1.length fc) ?_;go_frame;refine Rg.lm 27 (.slice (some ⟨wb,wo,none⟩) wl.length wc) ?_;go_frame;refine Rg.lr 28 (Rg.ln Tryz.underlying26) ?_;go_frame;refine Rg.lr 29 (Rg.bn (.int .i64 (((wl.length+1):Nat):Int)) .add (h:=b_add _ (by omega) (by omega))) ?_;go_frame;refine Rg.lr 30 (exec_makeSlice _ _ _ rfl _ _ rfl rfl (mkInts (wl.length+1) (by omega) w4)) ?_;go_frame;refine Rg.lr 31 (exec_makeFunc 60 _ rfl rfl) ?_;go_frame;refine Rg.lk 32 (exec_fn3 59 _ _ _ _ rfl rfl rfl rfl (Dtcl2 _ _)) ?_;refine (foldG_any (cap:=wl.length+1) HR0.out.r HLA.out hl HQ.out HBI.out hN1 (by omega) CB.out hbw hrw).mono ?_
  rintro e1 w5 ⟨rfl,hrg,hb⟩;have KB:=ι hb;refine ⟨_,rfl,?_⟩;go_frame;clear hb;refine Rg.la 2 (.slice (some ⟨w4.heap.size,0,none⟩) (wl.length+1) (wl.length+1)) ?_;go_frame;refine Rg.la 3 (.int .i64 ((0:Nat):Int)) ?_;go_frame
  have hml:wl.length+1≤maxLen:=by unfold maxLen; omega
  have hin:=RwAt.intsL hrg (Nat.le_refl _) hml (by omega);have K9:=ι (Rg.acc K.out KB.out);go_wp2
  go_ret2
  exact ⟨_,_,0,rfl,.inr ⟨h1,N,gs,O,R,rfl,rfl,hN1,hgd,hch,.inr ⟨h2,rfl,st,wl,HBE.out,by rw [HBI.out.ln]; exact hwl.out,rfl⟩⟩,hin,K9.out⟩

theorem Bqcl1 (args:Array Value) (w:World):(callFunc 48 args).run Tryz.prog w=.ok (.enter 48 args) w:=by kernel_rfl
theorem stG0 (b:Nat) (w:World):(Instr.fieldAt 51 (.pointer (some ⟨b,0,none⟩)) 0).run Tryz.prog w=.ok (.pointer (some ⟨b,0,none⟩)) w:=by kernel_rfl
theorem stG1 (b:Nat) (w:World):(Instr.fieldAt 51 (.pointer (some ⟨b,0,none⟩)) 1).run Tryz.prog w=.ok (.pointer (some ⟨b,1,none⟩)) w:=by kernel_rfl
theorem stG2 (b:Nat) (w:World):(Instr.fieldAt 51 (.pointer (some ⟨b,0,none⟩)) 2).run Tryz.prog w=.ok (.pointer (some ⟨b,2,none⟩)) w:=by kernel_rfl
theorem clRun1 (args:Array Value) (w:World):(callFunc 49 args).run Tryz.prog w=.ok (.enter 49 args) w:=by kernel_rfl
theorem RnM.start (h:RowF F B W v T) (hF:∀ k,F k→k<B) (hb:Below W.heap.size W W') (hcb:W.heap.size≤cb) (hcl:cb<W'.heap.size):RnM B W' cb v T:=by
 obtain ⟨us,h1,h2⟩:=h.own;have hs:=h.size;refine ⟨⟨us,Rg.row_below h1 hb,(h2.kp (M:=fun _=>False) (Rg.Kp.of_below hb) (fun _ _=>id)).mono fun k g=>⟨by have:=hF k g; have:=hb.size; omega,by have:=hF k g; omega,fun e=>by have:=(h1.lt k e).1; have:=hF k g; omega⟩⟩,fun e=>by have:=(h1.lt cb e).2; omega,Nat.le_trans hs hb.size⟩
theorem boxPs (W:World) (y:Value) (t:TypeId):CW ((W.alloc (.cells #[.slice none 0 0] t)).setCell ⟨W.heap.size,0,none⟩ y) W.heap.size y∧Below W.heap.size W ((W.alloc (.cells #[.slice none 0 0] t)).setCell ⟨W.heap.size,0,none⟩ y):=by
 have c0:(W.alloc (.cells #[.slice none 0 0] t)).cell? ⟨W.heap.size,0,none⟩=some (.slice none 0 0):=by rw [Rg.cellNew]; rfl
 exact ⟨⟨World.cell?_setCell_same (h:=c0) ..,by rw [World.frozen?_setCell]; exact frozenNewN _ _ _ 0 _,by simp⟩,((Below.refl _ _).alloc (Nat.le_refl _) _).setCell (p:=⟨W.heap.size,0,none⟩) (Nat.le_refl _) _⟩
structure RnG (D:Nat) (gs T:List (List Nat)) (i:Nat):Prop where
 ln:T.length=gs.length+i
 gd:∀ x∈T,Gd D x
theorem RnG.next {i:Nat} (h:RnG D gs T i) {x:List Nat} (hx:Gd D x):RnG D gs (T++[x]) (i+1) :=
 ⟨by rw [List.length_append,h.ln]; rfl,fun y hy=>by
  rcases List.mem_append.1 hy with hy | hy
  ·exact h.gd y hy
  ·rw [List.mem_singleton] at hy; rw [hy]; exact hx⟩
theorem run1_any {a:Option Addr} {c:Nat} {i:Int} (hc:CL w cb 0 (.slice a n c)) :
  Calls Tryz.prog 49 #[.int .i64 i,.pointer (some ⟨cb,0,none⟩)] w fun e w'=>e=.returned (.bool (decide (0≤i∧i<(n:Int))))∧Below w.heap.size w w':=by
 have C0:=ι hc;have K:=ι (Below.refl w.heap.size w);clear hc
 by_cases h0:0≤i
 case neg =>
  rw [show decide (0≤i∧i<(n:Int))=false from decide_eq_false (fun e=>h0 e.1)]
  go_enter Tryz.func49,Tryz.ntmps49
  go_upto_region 0 with (fail);refine Rg.wl ?_;refine Rg.la 3 (.bool false) ?_;go_frame;go_upto_region 1 with (fail);refine Rg.wl ?_;refine Rg.lm 4 (.int .i64 i) ?_;go_frame;refine Rg.lr 5 (Rg.bn (.bool false) .geq (h:=b_geq _ Rg.dF)) ?_;go_frame;refine Rg.lm 6 (.bool false) ?_;go_frame;refine Rg.lp 7 ?_;go_frame;refine Rg.lp 8 ?_;go_frame;refine Rg.lp 9 ?_;go_frame;refine Rg.lp 10 ?_;go_frame;refine Rg.lr 11 (Rg.pF (.bool false)) ?_;go_frame;refine Rg.la 3 (.bool false) ?_;go_frame;go_wp2;go_ret;exact ⟨rfl,K.out⟩
 case pos =>
  by_cases h1:i<(n:Int)
  case neg =>
   rw [show decide (0≤i∧i<(n:Int))=false from decide_eq_false (fun e=>h1 e.2)]
   go_enter Tryz.func49,Tryz.ntmps49
   go_upto_region 0 with (fail);refine Rg.wl ?_;refine Rg.la 3 (.bool false) ?_;go_frame;go_upto_region 1 with (fail);refine Rg.wl ?_;refine Rg.lm 4 (.int .i64 i) ?_;go_frame;refine Rg.lr 5 (Rg.bn (.bool true) .geq (h:=b_geq _ Rg.dT)) ?_;go_frame;refine Rg.lm 6 (.bool true) ?_;go_frame;refine Rg.lW 7 (Rg.xm (.int .i64 i) _ rfl rfl) ?_;go_frame;refine Rg.lW 8 (Rg.lo (.slice a n c) ⟨cb,0,none⟩ (Rg.run_loadSl _ _ Tryz.underlying22 C0.out.cell)) ?_;go_frame;refine Rg.lW 9 (Rg.ln Tryz.underlying22) ?_;go_frame;refine Rg.lW 10 (Rg.bn (.bool false) .lss (h:=b_lss _ (decide_eq_false h1))) ?_;go_frame;refine Rg.lr 11 (Rg.pT (.bool false)) ?_;go_frame;refine Rg.la 3 (.bool false) ?_;go_frame;go_wp2;go_ret;exact ⟨rfl,K.out⟩
  case pos =>
   rw [show decide (0≤i∧i<(n:Int))=true from decide_eq_true ⟨h0,h1⟩]
   go_enter Tryz.func49,Tryz.ntmps49
   go_upto_region 0 with (fail);refine Rg.wl ?_;refine Rg.la 3 (.bool false) ?_;go_frame;go_upto_region 1 with (fail);refine Rg.wl ?_;refine Rg.lm 4 (.int .i64 i) ?_;go_frame;refine Rg.lr 5 (Rg.bn (.bool true) .geq (h:=b_geq _ Rg.dT)) ?_;go_frame;refine Rg.lm 6 (.bool true) ?_;go_frame;refine Rg.lW 7 (Rg.xm (.int .i64 i) _ rfl rfl) ?_;go_frame;refine Rg.lW 8 (Rg.lo (.slice a n c) ⟨cb,0,none⟩ (Rg.run_loadSl _ _ Tryz.underlying22 C0.out.cell)) ?_;go_frame;refine Rg.lW 9 (Rg.ln Tryz.underlying22) ?_;go_frame;refine Rg.lW 10 (Rg.bn (.bool true) .lss (h:=b_lss _ (decide_eq_true h1))) ?_;go_frame;refine Rg.lr 11 (Rg.pT (.bool true)) ?_;go_frame;refine Rg.la 3 (.bool true) ?_;go_frame;go_wp2;go_ret;exact ⟨rfl,K.out⟩
def RnPost (d:Int) (ll:List (List Int)) (S:List Stp) (w:World) (ed:Ending) (w':World):Prop:=∃ v l c,ed=.returned (.tuple #[v,.int .i64 c])∧RnV d ll S l c∧Rg.Ints w' v l∧Below w.heap.size w w'
theorem fcRun_any (gv sv:Value) (d:Int) (ll:List (List Int)) (S:List Stp) (w:World) (h:Rg.Rows w gv ll) (hs:StA w sv S) (hsl:S.length≤100000) :
  Calls Tryz.prog 16 #[.agg #[.int .i64 d,gv],sv] w (RnPost d ll S w):=by
 obtain ⟨sa,sc,rfl,-⟩:=hs.st;have SA0:=ι hs;clear hs;obtain ⟨ga,gc,rfl,hga,hba⟩:=GI.enter (d) h;have K:=ι hba;have G0:=ι hga;clear h hga hba;obtain ⟨ck,hck⟩:∃ c,Hid (Ma.gchk d ll=c):=⟨_,ι rfl⟩;replace SA0:=ι (SA0.out.below ((Below.refl _ _).alloc (Nat.le_refl _) (.cells #[.int .i64 d,.slice ga ll.length gc] 24)))
 go_enter Tryz.func16,Tryz.ntmps16
 go_upto_region 0 with (fail);refine Rg.wl ?_;refine Rg.lr 2 (Rg.exec_box _ _ rfl rfl) ?_;go_frame;refine Rg.la 4 (.slice none 0 0) ?_;go_frame;refine Rg.la 5 (.int .i64 0) ?_;go_frame;obtain ⟨gb,hgb⟩:∃ gb,w.heap.size=gb:=⟨_,rfl⟩;rw [hgb] at G0 ⊢;generalize w.alloc (.cells #[.int .i64 d,.slice ga ll.length gc] 24)=w0 at *;clear hgb;go_upto_region 1 with (fail);refine Rg.wl ?_;refine Rg.lr 11 (Rg.lo (.agg #[.int .i64 d,.slice ga ll.length gc]) ⟨gb,0,none⟩ (run_loadG G0.out.c0 G0.out.c1)) ?_;go_frame;refine Rg.lk 12 (exec_fn1 40 _ _ rfl rfl (Wbcl0 _ _)) ?_;refine (orbitCheck_any _ d ll w0 G0.out.rows).mono ?_;rintro e1 w1 ⟨rfl,hb⟩;rw [hck.out];refine ⟨_,rfl,?_⟩;go_frame;replace G0:=ι (G0.out.below hb);replace SA0:=ι (SA0.out.below hb);replace K:=ι (Rg.acc K.out hb);clear hb;refine Rg.la 6 (.int .i64 ck) ?_;go_frame
 by_cases h0:ck=0
 case neg =>
  skip
  go_upto_region 2 with (fail);refine Rg.wl ?_;refine Rg.lm 13 (.int .i64 ck) ?_;go_frame;refine Rg.lr 14 (Rg.bn (.bool true) .neq (h:=b_neqB _ (decide_eq_true h0))) ?_;go_frame;go_upto_region 3 with (fail);refine Rg.wl ?_;refine Rg.lm 15 (.int .i64 ck) ?_;go_frame;refine Rg.la 4 (.slice none 0 0) ?_;go_frame;refine Rg.la 5 (.int .i64 ck) ?_;go_frame;go_wp2
  go_ret2
  exact ⟨_,[],ck,rfl,.inl ⟨by rw [hck.out]; exact h0,hck.out.symm,rfl⟩,ints_nil _,K.out⟩
 case pos =>
  have HZ:=ι (hck.out.trans h0);obtain ⟨D,gs,rfl,rfl,hgg,hn1,hn2,hgl⟩:=gchk_ok HZ.out;have HGD:=ι (show ∀ s∈gs,Gd D s from fun s hs=>hgg s hs);have HGL:=ι hgl;clear hgg hck;go_upto_region 2 with (fail);refine Rg.wl ?_;refine Rg.lm 13 (.int .i64 ck) ?_;go_frame;refine Rg.lr 14 (Rg.bn (.bool false) .neq (h:=b_neqB _ (decide_eq_false (fun e=>e h0)))) ?_;go_frame;clear h0
  by_cases hlong:5000<S.length
  case pos =>
   skip
   go_upto_region 4 with (fail);refine Rg.wl ?_;refine Rg.lm 16 (.slice sa S.length sc) ?_;go_frame;refine Rg.lr 17 (Rg.ln Tryz.underlying36) ?_;go_frame;refine Rg.lr 18 (Rg.bn (.bool true) .gtr (h:=b_gtr _ Rg.dT)) ?_;go_frame;go_upto_region 5 with (fail);refine Rg.wl ?_;refine Rg.la 4 (.slice none 0 0) ?_;go_frame;refine Rg.la 5 (.int .i64 ((4:Nat):Int)) ?_;go_frame;go_wp2
   go_ret2
   exact ⟨_,[],4,rfl,.inr (.inl ⟨HZ.out,hlong,rfl,rfl⟩),ints_nil _,K.out⟩
  case neg =>
   have hul:S.length≤5000:=by omega
   clear hlong hsl;go_upto_region 4 with (fail);refine Rg.wl ?_;refine Rg.lm 16 (.slice sa S.length sc) ?_;go_frame;refine Rg.lr 17 (Rg.ln Tryz.underlying36) ?_;go_frame;refine Rg.lr 18 (Rg.bn (.bool false) .gtr (h:=b_gtr _ Rg.dF)) ?_;go_frame;have G1:=G0;have SA1:=SA0;have K0:=K;clear K;have K:=ι (Below.refl w1.heap.size w1);go_upto_region 6 with (fail);refine Rg.wl ?_;refine Rg.lr 19 (exec_fieldG _ rfl rfl) ?_;go_frame;refine Rg.lr 20 (Rg.lo (.slice ga (gs.map Ma.ofN).length gc) ⟨gb,1,none⟩ (Rg.run_loadSl _ _ Tryz.underlying22 G0.out.c1)) ?_;go_frame;refine Rg.lk 21 (exec_fn1 48 _ _ rfl rfl (Bqcl1 _ _)) ?_;refine (ClonePs_any _ gs w1 G0.out.rows (by omega)).mono ?_;rintro e1 w2 ⟨cv,rfl,hcv,hb⟩
   obtain ⟨ca,cc,hsh⟩:∃ a c,cv=.slice a gs.length c:=by obtain ⟨us,h1,h2⟩:=hcv.own; exact Rg.row_shape h1
   subst hsh;refine ⟨_,rfl,?_⟩;go_frame;replace G0:=ι (G0.out.below hb);replace SA0:=ι (SA0.out.below hb);replace K:=ι (Rg.acc K.out hb);clear hb;have HCB:=ι K.out.size;refine Rg.lr 7 (exec_allocPs rfl) ?_;go_frame;refine Rg.list_skip none rfl rfl (Rg.exec_store _ _ _ rfl _ rfl _ rfl (Rg.run_storeSl _ infoPermsV (by rw [Rg.cellNew]; rfl) (frozenNewN _ _ _ 0 _))) ?_;go_frame;have hbx:=boxPs w2 (.slice ca gs.length cc) 22;have hrm:=RnM.start hcv (fun _ g=>g) hbx.2 (Nat.le_refl _) hbx.1.lt;have hb:=hbx.2;generalize (w2.alloc (.cells #[.slice none 0 0] 22)).setCell ⟨w2.heap.size,0,none⟩ (.slice ca gs.length cc)=w3 at *;replace G0:=ι (G0.out.below hb);replace SA0:=ι (SA0.out.below hb);replace K:=ι (Rg.acc K.out hb);clear hb;have CC:=ι hbx.1;have RM:=ι hrm;clear hbx hrm hcv;obtain ⟨cb,hcb⟩:∃ b,w2.heap.size=b:=⟨_,rfl⟩;rw [hcb] at RM CC HCB ⊢;clear hcb;go_upto_region 7 with (fail)
   refine Rg.wl ?_;refine Rg.lr 22 (exec_makeFunc 49 _ rfl rfl) ?_;go_frame;refine Rg.la 8 ((.func (.func 49) #[] #[.pointer (some ⟨cb,0,none⟩)])) ?_;go_frame;go_upto_region 8 with (fail);refine Rg.wl ?_;refine Rg.lm 23 (.slice sa S.length sc) ?_;go_frame;refine Rg.lr 24 (Rg.ln Tryz.underlying36) ?_;go_frame;refine Rg.lm 25 (.int .i64 ((0:Nat):Int)) ?_;go_frame;have RG:=ι (show RnG D gs gs 0 from ⟨rfl,HGD.out⟩);have RE:=ι (show rn (S.drop 0) gs=rn S gs from rfl);clear G0 SA0;go_wp2
   go_loopw [25] (fun iv wr=>∃ (i:Nat) (T:List (List Nat)) (fv:Value),iv=.int .i64 ((i:Nat):Int)∧i≤S.length∧Hid (CW wr cb fv)∧Hid (RnM w1.heap.size wr cb fv T)∧Hid (rn (S.drop i) T=rn S gs)∧Hid (RnG D gs T i)∧Hid (Below w1.heap.size w1 wr)) (fun iv _=>S.length - (intOf iv).toNat)
   case atStart=>exact ⟨0,gs,_,rfl,Nat.zero_le _,CC,RM,RE,RG,K⟩
   case round =>
    clear CC RM RE RG K;obtain ⟨i,T,fv,rfl,hi,CC,RM,RE,RG,K⟩:=hrel;have G0:=ι (G1.out.below K.out);have SA0:=ι (SA1.out.below K.out);obtain ⟨fa,fc,hsh⟩:=RM.out.shape;subst hsh
    have htl:T.length≤5016:=by have:=RG.out.ln; have:=HGL.out; omega
    by_cases hil:i<S.length
    case neg =>
     have HRN:=ι (show rn S gs=(0,T) by rw [← RE.out,List.drop_eq_nil_of_le (by omega)]; rfl);have KL:=ι (Rg.acc K0.out K.out);go_upto_region 9 with (fail);refine Rg.wl ?_;refine Rg.lr 26 (Rg.bn (.bool false) .lss (h:=b_lss _ Rg.dF)) ?_;go_frame
     by_cases hz:S.length=0
     case pos =>
      skip
      go_upto_region 19 with (fail);refine Rg.wl ?_;refine Rg.lm 84 (.slice sa S.length sc) ?_;go_frame;refine Rg.lr 85 (Rg.ln Tryz.underlying36) ?_;go_frame;refine Rg.lr 86 (Rg.bn (.bool true) .eql (h:=b_eql _ Rg.dT)) ?_;go_frame;go_upto_region 20 with (fail);refine Rg.wl ?_;refine Rg.lr 87 (exec_fieldG0 _ rfl rfl) ?_;go_frame;refine Rg.lr 88 (Rg.lo (.int .i64 ((D:Nat):Int)) ⟨gb,0,none⟩ (run_loadInt G0.out.c0)) ?_;go_frame;refine Rg.lk 89 (exec_fn1 42 _ _ rfl rfl (Bgcl4 _ _)) ?_;refine (fcOne_any D wr (by omega)).mono ?_;rintro e1 w34 ⟨ov,rfl,hov,hb⟩;refine ⟨_,rfl,?_⟩;go_frame;replace CC:=ι (CC.out.below hb);replace RM:=ι (RM.out.below hb);replace G0:=ι (G0.out.below hb);replace SA0:=ι (SA0.out.below hb);replace KL:=ι (Rg.acc KL.out hb);clear hb;refine Rg.la 4 (ov) ?_;go_frame;refine Rg.la 5 (.int .i64 ((0:Nat):Int)) ?_;go_frame;go_wp2
      go_ret2
      exact ⟨_,_,0,rfl,.inr (.inr ⟨HZ.out,hul,D,gs,rfl,rfl,by rw [HRN.out],.inr ⟨rfl,by rw [if_pos hz]⟩⟩),hov.1,KL.out⟩
     case neg =>
      obtain ⟨x,hx⟩:∃ x,Hid (T[T.length - 1]?=some x):=⟨_,ι (List.getElem?_eq_getElem (by have:=RG.out.ln; omega))⟩;have HTP:=ι (show 1≤T.length by have:=RG.out.ln; omega);have htp1:1≤T.length:=HTP.out;obtain ⟨fb,fo,fc9,uv,e1,hcu,heu⟩:=RM.out.at (by omega) (i:=T.length - 1) (by have:=HTP.out; omega) hx.out;simp only [Value.slice.injEq,true_and] at e1;obtain ⟨rfl,rfl⟩:=e1;have CU:=ι hcu;have EU:=ι heu;clear hcu heu;go_upto_region 19 with (fail);refine Rg.wl ?_;refine Rg.lm 84 (.slice sa S.length sc) ?_;go_frame;refine Rg.lr 85 (Rg.ln Tryz.underlying36) ?_;go_frame;refine Rg.lr 86 (Rg.bn (.bool false) .eql (h:=b_eql _ Rg.dF)) ?_;go_frame;go_upto_region 21 with (fail);refine Rg.wl ?_;refine Rg.lr 90 (Rg.lo (.slice (some ⟨fb,fo,none⟩) T.length fc) ⟨cb,0,none⟩ (Rg.run_loadSl _ _ Tryz.underlying22 CC.out.c)) ?_;go_frame;refine Rg.lr 91 (Rg.lo (.slice (some ⟨fb,fo,none⟩) T.length fc) ⟨cb,0,none⟩ (Rg.run_loadSl _ _ Tryz.underlying22 CC.out.c)) ?_;go_frame
      refine Rg.lr 92 (Rg.ln Tryz.underlying22) ?_;go_frame;refine Rg.lr 93 (Rg.bn (.int .i64 (((T.length - 1):Nat):Int)) .sub (h:=b_sub _ (by omega) (by omega))) ?_;go_frame;refine Rg.lr 94 (exec_indexS slPerms _ _ rfl fb (fo) (T.length) fc ((T.length - 1)) rfl rfl (by have:=HTP.out; omega)) ?_;go_frame;refine Rg.lr 95 (Rg.lo (uv) ⟨fb,fo+(T.length - 1),none⟩ (Rg.run_loadSl _ _ Tryz.underlying30 CU.out.cell)) ?_;go_frame;refine Rg.la 4 (uv) ?_;go_frame;refine Rg.la 5 (.int .i64 ((0:Nat):Int)) ?_;go_frame;go_wp2
      go_ret2
      exact ⟨_,_,0,rfl,.inr (.inr ⟨HZ.out,hul,D,gs,rfl,rfl,by rw [HRN.out],.inr ⟨rfl,by rw [if_neg hz,HRN.out]; show Ma.ofN x=Ma.ofN (T.getD (T.length - 1) []); rw [List.getD_eq_getElem?_getD,hx.out]; rfl⟩⟩),EU.out.ints,KL.out⟩
    case pos =>
     obtain ⟨sa2,sc2,e1,hst⟩:=SA0.out.st;simp only [Value.slice.injEq,true_and] at e1;obtain ⟨rfl,rfl⟩:=e1;obtain ⟨sb,so,e1,hsb,hsc⟩:=hst (by omega);subst e1;obtain ⟨hc0,hc1,hc2⟩:=hsc i hil;obtain ⟨s,hs⟩:∃ s,Hid (S[i]'hil=s):=⟨_,ι rfl⟩;rw [hs.out] at hc0 hc1 hc2;obtain ⟨x,y,z⟩:=s;have HD:=ι (show S.drop i=(x,y,z) :: S.drop (i+1) by rw [List.drop_eq_getElem_cons hil,hs.out]);have A0:=ι (CL.mk hc0 hsb);have A1:=ι (CL.mk hc1 hsb);have A2:=ι (CL.mk hc2 hsb);have HIL:=ι hil;have HRC:=ι (fun (h:rnC T (x,y,z)≠0)=>show rn S gs=(rnC T (x,y,z),T) by rw [← RE.out,HD.out]; exact rn_bad h);have HRO:=ι (fun (h:rnC T (x,y,z)=0)=>show rn (S.drop (i+1)) (T++[rnE T (x,y,z)])=rn S gs by rw [← RE.out,HD.out]; exact (rn_ok h).symm);clear hst hsc hc0 hc1 hc2 hsb;go_upto_region 9 with (fail);refine Rg.wl ?_;refine Rg.lr 26 (Rg.bn (.bool true) .lss (h:=b_lss _ Rg.dT)) ?_;go_frame
     have HXN:=ι (fun q (e:(Value.slice fa T.length fc).ownBlock=some q)=>(show q≠wr.heap.size from by have:=(RM.out.lt1 q e).2; omega));go_upto_region 10 with (fail);refine Rg.wl ?_;refine Rg.lr 27 (exec_indexZ _ _ rfl Tryz.underlying36 szStp sb (so) (S.length) (sc) (i) rfl rfl HIL.out) ?_;go_frame;refine Rg.lr 28 (Rg.lo ((.agg #[.int .i64 x,.int .i64 y,.int .i64 z])) ⟨sb,so+i*3,none⟩ (run_loadSt A0.out.cell A1.out.cell A2.out.cell)) ?_;go_frame;obtain ⟨Xs,hst,hx0,hx1,hx2,hb⟩:=boxSt wr x y z;refine Rg.lr 10 (exec_allocSt rfl) ?_;go_frame;refine Rg.list_skip none rfl rfl (Rg.exec_store _ _ _ rfl _ rfl _ rfl hst) ?_;go_frame;replace CC:=ι (CC.out.below hb);replace RM:=ι (RM.out.below hb);replace G0:=ι (G0.out.below hb);replace SA0:=ι (SA0.out.below hb);replace A0:=ι (A0.out.below hb);replace A1:=ι (A1.out.below hb);replace A2:=ι (A2.out.below hb);replace K:=ι (Rg.acc K.out hb)
     clear hb;have B0:=ι hx0;have B1:=ι hx1;have B2:=ι hx2;clear hst hx0 hx1 hx2 A0 A1 A2 SA0 G0;obtain ⟨xb,hxb⟩:∃ b,wr.heap.size=b:=⟨_,rfl⟩;rw [hxb] at B0 B1 B2 HXN ⊢;clear hxb
     by_cases hx1:x=1
     case pos =>
      by_cases hy:0≤y∧y<(T.length:Int)
      case neg =>
       skip
       go_upto_region 12 with (fail);refine Rg.wl ?_;refine Rg.lr 39 (exec_field _ rfl rfl (stG0 _ _)) ?_;go_frame;refine Rg.lr 40 (Rg.lo (.int .i64 x) ⟨xb,0,none⟩ (run_loadInt B0.out.cell)) ?_;go_frame;refine Rg.lr 41 (Rg.bn (.bool false) .neq (h:=b_neqB _ (decide_eq_false (fun e=>e hx1)))) ?_;go_frame;refine Rg.lm 42 (.bool false) ?_;go_frame;refine Rg.lp 43 ?_;go_frame;refine Rg.lp 44 ?_;go_frame;refine Rg.lp 45 ?_;go_frame;refine Rg.lr 46 (Rg.pF (.bool false)) ?_;go_frame;refine Rg.la 38 (.bool false) ?_;go_frame;go_upto_region 14 with (fail);refine Rg.wl ?_;refine Rg.lm 48 ((.func (.func 49) #[] #[.pointer (some ⟨cb,0,none⟩)])) ?_;go_frame;refine Rg.lr 49 (exec_field _ rfl rfl (stG1 _ _)) ?_;go_frame;refine Rg.lr 50 (Rg.lo (.int .i64 y) ⟨xb,1,none⟩ (run_loadInt B1.out.cell)) ?_;go_frame;refine Rg.lk 51 (exec_fnc1 49 _ _ _ rfl rfl rfl (clRun1 _ _)) ?_;refine (run1_any (i:=y) (CL.mk CC.out.c CC.out.lt)).mono ?_
       rintro e1 w94 ⟨rfl,hb⟩;rw [show decide (0≤y∧y<(T.length:Int))=false from decide_eq_false hy];refine ⟨_,rfl,?_⟩;go_frame;replace CC:=ι (CC.out.below hb);replace RM:=ι (RM.out.below hb);replace B0:=ι (B0.out.below hb);replace B1:=ι (B1.out.below hb);replace B2:=ι (B2.out.below hb);replace K:=ι (Rg.acc K.out hb);clear hb;refine Rg.lr 52 (exec_not _ _ false rfl rfl) ?_;go_frame;refine Rg.lm 53 (.bool true) ?_;go_frame;refine Rg.lp 54 ?_;go_frame;refine Rg.lp 55 ?_;go_frame;refine Rg.lp 56 ?_;go_frame;refine Rg.lp 57 ?_;go_frame;refine Rg.lp 58 ?_;go_frame;refine Rg.lp 59 ?_;go_frame;refine Rg.lp 60 ?_;go_frame;refine Rg.lp 61 ?_;go_frame;refine Rg.lp 62 ?_;go_frame;refine Rg.lp 63 ?_;go_frame;refine Rg.lr 64 (Rg.pT (.bool true)) ?_;go_frame;refine Rg.la 47 (.bool true) ?_;go_frame;go_upto_region 15 with (fail);refine Rg.wl ?_;refine Rg.la 4 (.slice none 0 0) ?_;go_frame
       refine Rg.la 5 (.int .i64 ((2:Nat):Int)) ?_;go_frame;go_wp2
       go_ret2
       exact ⟨_,[],2,rfl,.inr (.inr ⟨HZ.out,hul,D,gs,rfl,rfl,by rw [HRC.out (by rw [rnC_a (s:=(x,y,z)) (.inl hx1) hy]; decide),rnC_a (s:=(x,y,z)) (.inl hx1) hy],.inl ⟨by decide,rfl⟩⟩),ints_nil _,Rg.acc K0.out K.out⟩
      case pos =>
       by_cases hz:0≤z∧z<(T.length:Int)
       case neg =>
        skip
        go_upto_region 12 with (fail);refine Rg.wl ?_;refine Rg.lr 39 (exec_field _ rfl rfl (stG0 _ _)) ?_;go_frame;refine Rg.lr 40 (Rg.lo (.int .i64 x) ⟨xb,0,none⟩ (run_loadInt B0.out.cell)) ?_;go_frame;refine Rg.lr 41 (Rg.bn (.bool false) .neq (h:=b_neqB _ (decide_eq_false (fun e=>e hx1)))) ?_;go_frame;refine Rg.lm 42 (.bool false) ?_;go_frame;refine Rg.lp 43 ?_;go_frame;refine Rg.lp 44 ?_;go_frame;refine Rg.lp 45 ?_;go_frame;refine Rg.lr 46 (Rg.pF (.bool false)) ?_;go_frame;refine Rg.la 38 (.bool false) ?_;go_frame;go_upto_region 14 with (fail);refine Rg.wl ?_;refine Rg.lm 48 ((.func (.func 49) #[] #[.pointer (some ⟨cb,0,none⟩)])) ?_;go_frame;refine Rg.lr 49 (exec_field _ rfl rfl (stG1 _ _)) ?_;go_frame;refine Rg.lr 50 (Rg.lo (.int .i64 y) ⟨xb,1,none⟩ (run_loadInt B1.out.cell)) ?_;go_frame;refine Rg.lk 51 (exec_fnc1 49 _ _ _ rfl rfl rfl (clRun1 _ _)) ?_;refine (run1_any (i:=y) (CL.mk CC.out.c CC.out.lt)).mono ?_
        rintro e1 w125 ⟨rfl,hb⟩;rw [show decide (0≤y∧y<(T.length:Int))=true from decide_eq_true hy];refine ⟨_,rfl,?_⟩;go_frame;replace CC:=ι (CC.out.below hb);replace RM:=ι (RM.out.below hb);replace B0:=ι (B0.out.below hb);replace B1:=ι (B1.out.below hb);replace B2:=ι (B2.out.below hb);replace K:=ι (Rg.acc K.out hb);clear hb;refine Rg.lr 52 (exec_not _ _ true rfl rfl) ?_;go_frame;refine Rg.lm 53 (.bool false) ?_;go_frame;refine Rg.lW 54 (exec_field _ rfl rfl (stG0 _ _)) ?_;go_frame;refine Rg.lW 55 (Rg.lo (.int .i64 x) ⟨xb,0,none⟩ (run_loadInt B0.out.cell)) ?_;go_frame;refine Rg.lW 56 (Rg.bn (.bool true) .eql (h:=b_eql _ (decide_eq_true hx1))) ?_;go_frame;refine Rg.lW 57 (Rg.xm (.bool true) _ rfl rfl) ?_;go_frame;refine Rg.lW 58 (Rg.xm ((.func (.func 49) #[] #[.pointer (some ⟨cb,0,none⟩)])) _ rfl rfl) ?_;go_frame;refine Rg.lW 59 (exec_field _ rfl rfl (stG2 _ _)) ?_;go_frame
        refine Rg.lW 60 (Rg.lo (.int .i64 z) ⟨xb,2,none⟩ (run_loadInt B2.out.cell)) ?_;go_frame;refine listW_ask (some 61) rfl rfl _ _ (exec_fnc1 49 _ _ _ rfl rfl rfl (clRun1 _ _)) ?_;refine (run1_any (i:=z) (CL.mk CC.out.c CC.out.lt)).mono ?_;rintro e1 w126 ⟨rfl,hb⟩;rw [show decide (0≤z∧z<(T.length:Int))=false from decide_eq_false hz];refine ⟨_,rfl,?_⟩;go_frame;replace CC:=ι (CC.out.below hb);replace RM:=ι (RM.out.below hb);replace B0:=ι (B0.out.below hb);replace B1:=ι (B1.out.below hb);replace B2:=ι (B2.out.below hb);replace K:=ι (Rg.acc K.out hb);clear hb;refine Rg.lW 62 (exec_not _ _ false rfl rfl) ?_;go_frame;refine Rg.lW 63 (Rg.pT (.bool true)) ?_;go_frame;refine Rg.lr 64 (Rg.pF (.bool true)) ?_;go_frame;refine Rg.la 47 (.bool true) ?_;go_frame;go_upto_region 15 with (fail);refine Rg.wl ?_;refine Rg.la 4 (.slice none 0 0) ?_;go_frame;refine Rg.la 5 (.int .i64 ((2:Nat):Int)) ?_;go_frame
        go_wp2
        go_ret2
        exact ⟨_,[],2,rfl,.inr (.inr ⟨HZ.out,hul,D,gs,rfl,rfl,by rw [HRC.out (by rw [rnC_b (s:=(x,y,z)) hx1 hz]; decide),rnC_b (s:=(x,y,z)) hx1 hz],.inl ⟨by decide,rfl⟩⟩),ints_nil _,Rg.acc K0.out K.out⟩
       case pos =>
        skip
        go_upto_region 12 with (fail);refine Rg.wl ?_;refine Rg.lr 39 (exec_field _ rfl rfl (stG0 _ _)) ?_;go_frame;refine Rg.lr 40 (Rg.lo (.int .i64 x) ⟨xb,0,none⟩ (run_loadInt B0.out.cell)) ?_;go_frame;refine Rg.lr 41 (Rg.bn (.bool false) .neq (h:=b_neqB _ (decide_eq_false (fun e=>e hx1)))) ?_;go_frame;refine Rg.lm 42 (.bool false) ?_;go_frame;refine Rg.lp 43 ?_;go_frame;refine Rg.lp 44 ?_;go_frame;refine Rg.lp 45 ?_;go_frame;refine Rg.lr 46 (Rg.pF (.bool false)) ?_;go_frame;refine Rg.la 38 (.bool false) ?_;go_frame;go_upto_region 14 with (fail);refine Rg.wl ?_;refine Rg.lm 48 ((.func (.func 49) #[] #[.pointer (some ⟨cb,0,none⟩)])) ?_;go_frame;refine Rg.lr 49 (exec_field _ rfl rfl (stG1 _ _)) ?_;go_frame;refine Rg.lr 50 (Rg.lo (.int .i64 y) ⟨xb,1,none⟩ (run_loadInt B1.out.cell)) ?_;go_frame;refine Rg.lk 51 (exec_fnc1 49 _ _ _ rfl rfl rfl (clRun1 _ _)) ?_;refine (run1_any (i:=y) (CL.mk CC.out.c CC.out.lt)).mono ?_
        rintro e1 w157 ⟨rfl,hb⟩;rw [show decide (0≤y∧y<(T.length:Int))=true from decide_eq_true hy];refine ⟨_,rfl,?_⟩;go_frame;replace CC:=ι (CC.out.below hb);replace RM:=ι (RM.out.below hb);replace B0:=ι (B0.out.below hb);replace B1:=ι (B1.out.below hb);replace B2:=ι (B2.out.below hb);replace K:=ι (Rg.acc K.out hb);clear hb;refine Rg.lr 52 (exec_not _ _ true rfl rfl) ?_;go_frame;refine Rg.lm 53 (.bool false) ?_;go_frame;refine Rg.lW 54 (exec_field _ rfl rfl (stG0 _ _)) ?_;go_frame;refine Rg.lW 55 (Rg.lo (.int .i64 x) ⟨xb,0,none⟩ (run_loadInt B0.out.cell)) ?_;go_frame;refine Rg.lW 56 (Rg.bn (.bool true) .eql (h:=b_eql _ (decide_eq_true hx1))) ?_;go_frame;refine Rg.lW 57 (Rg.xm (.bool true) _ rfl rfl) ?_;go_frame;refine Rg.lW 58 (Rg.xm ((.func (.func 49) #[] #[.pointer (some ⟨cb,0,none⟩)])) _ rfl rfl) ?_;go_frame;refine Rg.lW 59 (exec_field _ rfl rfl (stG2 _ _)) ?_;go_frame
        refine Rg.lW 60 (Rg.lo (.int .i64 z) ⟨xb,2,none⟩ (run_loadInt B2.out.cell)) ?_;go_frame;refine listW_ask (some 61) rfl rfl _ _ (exec_fnc1 49 _ _ _ rfl rfl rfl (clRun1 _ _)) ?_;refine (run1_any (i:=z) (CL.mk CC.out.c CC.out.lt)).mono ?_;rintro e1 w158 ⟨rfl,hb⟩;rw [show decide (0≤z∧z<(T.length:Int))=true from decide_eq_true hz];refine ⟨_,rfl,?_⟩;go_frame;replace CC:=ι (CC.out.below hb);replace RM:=ι (RM.out.below hb);replace B0:=ι (B0.out.below hb);replace B1:=ι (B1.out.below hb);replace B2:=ι (B2.out.below hb);replace K:=ι (Rg.acc K.out hb);clear hb;refine Rg.lW 62 (exec_not _ _ true rfl rfl) ?_;go_frame;refine Rg.lW 63 (Rg.pT (.bool false)) ?_;go_frame;refine Rg.lr 64 (Rg.pF (.bool false)) ?_;go_frame;refine Rg.la 47 (.bool false) ?_;go_frame;go_upto_region 16 with (fail);refine Rg.wl ?_;refine Rg.lr 66 (exec_field _ rfl rfl (stG0 _ _)) ?_;go_frame;refine Rg.lr 67 (Rg.lo (.int .i64 x) ⟨xb,0,none⟩ (run_loadInt B0.out.cell)) ?_;go_frame
        refine Rg.lr 68 (Rg.bn (.bool true) .eql (h:=b_eql _ (decide_eq_true hx1))) ?_;go_frame;refine Rg.la 65 (.bool true) ?_;go_frame;obtain ⟨j,rfl⟩:∃ j:Nat,y=((j:Nat):Int):=⟨y.toNat,by omega⟩;have HJ:=ι (show j<T.length by omega);obtain ⟨xj,hxj⟩:∃ q,Hid (T[j]?=some q):=⟨_,ι (List.getElem?_eq_getElem HJ.out)⟩;have GJ:=ι (RG.out.gd xj (List.mem_of_getElem? hxj.out));obtain ⟨k,rfl⟩:∃ k:Nat,z=((k:Nat):Int):=⟨z.toNat,by omega⟩;have HK:=ι (show k<T.length by omega);obtain ⟨xk,hxk⟩:∃ q,Hid (T[k]?=some q):=⟨_,ι (List.getElem?_eq_getElem HK.out)⟩;have GK:=ι (RG.out.gd xk (List.mem_of_getElem? hxk.out));obtain ⟨fbj,foj,fcj,uj,ej,hcu,heu⟩:=RM.out.at (by omega) HJ.out hxj.out;simp only [Value.slice.injEq,true_and] at ej;obtain ⟨rfl,rfl⟩:=ej;have CJ:=ι hcu;have EJ:=ι heu;clear hcu heu;obtain ⟨fbk,fok,fck,uk,ek,hcu,heu⟩:=RM.out.at (by omega) HK.out hxk.out
        simp only [Value.slice.injEq,true_and,Option.some.injEq,Addr.mk.injEq,and_true] at ek;obtain ⟨⟨rfl,rfl⟩,rfl⟩:=ek;have CK:=ι hcu;have EK:=ι heu;clear hcu heu;have HC0:=ι (show rnC T (x,((j:Nat):Int),((k:Nat):Int))=0 from rnC_m hx1 hy hz);have HE0:=ι (show rnE T (x,((j:Nat):Int),((k:Nat):Int))=Ma.mulN xj xk from rnE_m hx1 (by show T[(((j:Nat):Int)).toNat]?=_; rw [Int.toNat_natCast]; exact hxj.out) (by show T[(((k:Nat):Int)).toNat]?=_; rw [Int.toNat_natCast]; exact hxk.out));go_upto_region 17 with (fail);have hV1:Below w158.heap.size w158 w158.drew:=(Below.refl _ _).drew;replace CC:=ι (CC.out.below hV1);replace RM:=ι (RM.out.below hV1);replace B1:=ι (B1.out.below hV1);replace B2:=ι (B2.out.below hV1);replace CJ:=ι (CJ.out.below hV1);replace EJ:=ι (EJ.out.below hV1);replace K:=ι (Rg.acc K.out hV1);replace CK:=ι (CK.out.below hV1)
        replace EK:=ι (EK.out.below hV1);clear hV1;refine Rg.Any.begin (S:=Rg.Tw 14 (fun W:World=>W.cell? ⟨cb,0,none⟩=some (.slice (some ⟨fbj,foj,none⟩) T.length fc)∧W.cell? ⟨xb,1,none⟩=some (.int .i64 ((j:Nat):Int))∧W.cell? ⟨xb,2,none⟩=some (.int .i64 ((k:Nat):Int))) 11 (fun W=>Below w158.drew.heap.size w158.drew W)) mix ?_;generalize w158.drew=w159 at *;have hS:∀ l:Array Bool,Rg.Tw 14 (fun W:World=>W.cell? ⟨cb,0,none⟩=some (.slice (some ⟨fbj,foj,none⟩) T.length fc)∧W.cell? ⟨xb,1,none⟩=some (.int .i64 ((j:Nat):Int))∧W.cell? ⟨xb,2,none⟩=some (.int .i64 ((k:Nat):Int))) 11 (fun W=>Below w159.heap.size w159 W) l w159:=fun l=>⟨.inr ⟨CC.out.c,B1.out.cell,B2.out.cell⟩,.inr (Below.refl _ _)⟩;refine Rg.Any.takeA (i:=0) (t:=14) (u:=11) (v:=.slice (some ⟨fbj,foj,none⟩) T.length fc) (some 69) rfl rfl (by kernel_rfl) (by kernel_rfl) (by kernel_rfl) (fun _ _ _ h=>h) rfl rfl (by kernel_rfl) rfl (Rg.yc ⟨cb,0,none⟩ (fun W hW=>Rg.run_loadSl _ _ Tryz.underlying22 hW.1)) (hS _) ?_;go_frame
        refine Rg.Any.takeA (i:=1) (t:=14) (u:=11) (v:=.slice (some ⟨fbj,foj,none⟩) T.length fc) (some 70) rfl rfl (by kernel_rfl) (by kernel_rfl) (by kernel_rfl) (fun _ _ _ h=>h) rfl rfl (by kernel_rfl) rfl (Rg.yc ⟨cb,0,none⟩ (fun W hW=>Rg.run_loadSl _ _ Tryz.underlying22 hW.1)) (hS _) ?_;go_frame;refine Rg.Any.takeP (i:=2) (t:=14) (u:=11) (v:=.pointer (some ⟨xb,1,none⟩)) (some 71) rfl rfl (by kernel_rfl) (by kernel_rfl) (by kernel_rfl) (fun _ _ _ h=>h) rfl rfl (.inl ⟨rfl,fun w _=>exec_field _ rfl rfl (stG1 _ _)⟩) (hS _) ?_;go_frame;refine Rg.Any.takeA (i:=3) (t:=14) (u:=11) (v:=.int .i64 ((j:Nat):Int)) (some 72) rfl rfl (by kernel_rfl) (by kernel_rfl) (by kernel_rfl) (fun _ _ _ h=>h) rfl rfl (by kernel_rfl) rfl (Rg.yc ⟨xb,1,none⟩ (fun W hW=>run_loadInt hW.2.1)) (hS _) ?_;go_frame;refine Rg.Any.takeP (i:=4) (t:=14) (u:=11) (v:=.pointer (some ⟨fbj,foj+j,none⟩)) (some 73) rfl rfl (by kernel_rfl) (by kernel_rfl) (by kernel_rfl) (fun _ _ _ h=>h) rfl rfl (Rg.yields_index slPerms _ _ rfl rfl fbj (foj) (T.length) fc (j) rfl rfl HJ.out) (hS _) ?_;go_frame
        refine Rg.Any.takeB (i:=5) (t:=14) (u:=11) (v:=uj) (some 74) rfl rfl (by kernel_rfl) (by kernel_rfl) (by kernel_rfl) (fun _ _ _ h=>h) rfl rfl (by kernel_rfl) rfl (Rg.yc ⟨fbj,foj+j,none⟩ (fun W hW=>Rg.run_loadSl _ _ Tryz.underlying30 ((Below.cell (p:=⟨fbj,foj+j,none⟩) hW CJ.out.lt).trans CJ.out.cell))) (hS _) ?_;go_frame;refine Rg.Any.takeA (i:=6) (t:=14) (u:=11) (v:=.slice (some ⟨fbj,foj,none⟩) T.length fc) (some 75) rfl rfl (by kernel_rfl) (by kernel_rfl) (by kernel_rfl) (fun _ _ _ h=>h) rfl rfl (by kernel_rfl) rfl (Rg.yc ⟨cb,0,none⟩ (fun W hW=>Rg.run_loadSl _ _ Tryz.underlying22 hW.1)) (hS _) ?_;go_frame;refine Rg.Any.takeP (i:=7) (t:=14) (u:=11) (v:=.pointer (some ⟨xb,2,none⟩)) (some 76) rfl rfl (by kernel_rfl) (by kernel_rfl) (by kernel_rfl) (fun _ _ _ h=>h) rfl rfl (.inl ⟨rfl,fun w _=>exec_field _ rfl rfl (stG2 _ _)⟩) (hS _) ?_;go_frame
        refine Rg.Any.takeA (i:=8) (t:=14) (u:=11) (v:=.int .i64 ((k:Nat):Int)) (some 77) rfl rfl (by kernel_rfl) (by kernel_rfl) (by kernel_rfl) (fun _ _ _ h=>h) rfl rfl (by kernel_rfl) rfl (Rg.yc ⟨xb,2,none⟩ (fun W hW=>run_loadInt hW.2.2)) (hS _) ?_;go_frame;refine Rg.Any.takeP (i:=9) (t:=14) (u:=11) (v:=.pointer (some ⟨fbj,foj+k,none⟩)) (some 78) rfl rfl (by kernel_rfl) (by kernel_rfl) (by kernel_rfl) (fun _ _ _ h=>h) rfl rfl (Rg.yields_index slPerms _ _ rfl rfl fbj (foj) (T.length) fc (k) rfl rfl HK.out) (hS _) ?_;go_frame;refine Rg.Any.takeB (i:=10) (t:=14) (u:=11) (v:=uk) (some 79) rfl rfl (by kernel_rfl) (by kernel_rfl) (by kernel_rfl) (fun _ _ _ h=>h) rfl rfl (by kernel_rfl) rfl (Rg.yc ⟨fbj,foj+k,none⟩ (fun W hW=>Rg.run_loadSl _ _ Tryz.underlying30 ((Below.cell (p:=⟨fbj,foj+k,none⟩) hW CK.out.lt).trans CK.out.cell))) (hS _) ?_;go_frame
        refine Rg.Any.one (i:=11) (by kernel_rfl) (Rg.Any.ask (some 80) rfl rfl rfl _ _ (exec_fn 44 _ _ _ rfl rfl rfl (Bgcl6 _ _)) ?_);refine (fcMul_any _ _ xj xk w159 EJ.out.np EK.out.np (fun q hq=>by rw [GK.out.2]; exact gd_mem GJ.out hq) (by rw [GJ.out.2]; omega) (by rw [GJ.out.2]; exact hn1) (by rw [GK.out.2]; exact hn1)).mono ?_;rintro e1 w160 ⟨mv,rfl,hmv,hb⟩;have hem:EX w160 cb (.slice (some ⟨fbj,foj,none⟩) T.length fc) mv (Ma.ofN (Ma.mulN xj xk)):=EX.new hmv CC.out.lt (fun q hq=>(RM.out.lt1 q hq).2)
        obtain ⟨ma,mn,mc,hms⟩:∃ a n c,mv=.slice a n c:=by
         obtain ⟨a,c,e,-⟩:=hem.ints.shape;exact ⟨_,_,_,e⟩
        subst hms;have hrm:=RM.out.below hb;have hcw:=CC.out.below hb;have hb1:=B1.out.below hb;have hb2:=B2.out.below hb;have hkk:=Rg.acc K.out hb;clear hb hmv;refine ⟨_,rfl,⟨.inr ⟨hcw.c,hb1.cell,hb2.cell⟩,.inl rfl⟩,?_⟩;go_frame;obtain ⟨a9,c9,X9,r1,hrm2,hkp⟩:=hrm.push hcw.lt hem ⟨_,_,_,rfl⟩ (by omega) 22;have hba:Below w160.heap.size w160 (w160.alloc (.cells #[.slice ma mn mc] 30)):=(Below.refl _ _).alloc (Nat.le_refl _) _;have hcw2:=hcw.below hba;have hb12:=hb1.below hba;have hb22:=hb2.below hba;have hcx:CW X9 cb (.slice (some ⟨fbj,foj,none⟩) T.length fc):=hcw.kp hkp (fun e=>hrm.off e);have hbx1:CL X9 xb 1 (.int .i64 ((j:Nat):Int)):=hb1.kp hkp (fun e=>HXN.out xb e rfl);have hbx2:CL X9 xb 2 (.int .i64 ((k:Nat):Int)):=hb2.kp hkp (fun e=>HXN.out xb e rfl);clear hba;refine Rg.Any.one (i:=12) (by kernel_rfl) (Rg.Any.run (some 81) rfl rfl rfl (Rg.exec_buildSlice _ _ _ rfl (.slice ma mn mc) rfl (run_build1P w160 _ ⟨_,_,_,rfl⟩)) ⟨.inr ⟨hcw2.c,hb12.cell,hb22.cell⟩,.inl rfl⟩ ?_)
        go_frame;refine Rg.Any.one (i:=13) (by kernel_rfl) (Rg.Any.run (some 82) rfl rfl rfl (Rg.exec_append _ _ _ rfl rfl rfl r1) ⟨.inr ⟨hcx.c,hbx1.cell,hbx2.cell⟩,.inl rfl⟩ ?_);go_frame;refine Rg.Any.one (i:=14) (by kernel_rfl) (Rg.Any.runSkip none rfl rfl rfl (Rg.exec_store _ _ _ rfl _ rfl _ rfl (Rg.run_storeSl _ infoPermsV hcx.c hcx.f)) ⟨.inl rfl,.inl rfl⟩ ?_);go_frame;refine Rg.Any.done (by kernel_rfl) ?_ _;have hrm3:=hrm2.set (.slice a9 (T.length+1) c9);have hcx2:=hcx.set (.slice a9 (T.length+1) c9);have hkx:=(Rg.Kp.below hkk hkp (fun k e=>(hrm.lt1 k e).1)).setCell (p:=⟨cb,0,none⟩) HCB.out (.slice a9 (T.length+1) c9);generalize X9.setCell ⟨cb,0,none⟩ (.slice a9 (T.length+1) c9)=W9 at *;have CC9:=ι hcx2;have RM9:=ι hrm3;have K9:=ι hkx;have RG9:=ι (RG.out.next (show Gd D (Ma.mulN xj xk) from Cm.gd_mul GJ.out GK.out));have RE9:=ι (show rn (S.drop (i+1)) (T++[(Ma.mulN xj xk)])=rn S gs by have:=HRO.out HC0.out; rwa [HE0.out] at this)
        clear hrm3 hcx2 hkx hcx hbx1 hbx2 hrm2 hkp r1 hcw hcw2 hb1 hb2 hb12 hb22 hrm hkk hem hS CC RM B1 B2 CJ EJ K CK EK;go_upto_region 18 with (fail);refine Rg.wl ?_;refine Rg.lr 83 (Rg.bn (.int .i64 (((i+1):Nat):Int)) .add (h:=b_add _ (by omega) (by omega))) ?_;go_frame;refine Rg.lm 25 (.int .i64 (((i+1):Nat):Int)) ?_;go_frame;go_wp2
        go_roundw
        case rel=>exact ⟨i+1,_,_,by go_num,HIL.out,CC9,RM9,RE9,RG9,K9⟩
        case measure=>simp [intOf]; have:=HIL.out; omega
     case neg =>
     by_cases hx2:x=2
     case neg =>
      skip
      go_upto_region 12 with (fail);refine Rg.wl ?_;refine Rg.lr 39 (exec_field _ rfl rfl (stG0 _ _)) ?_;go_frame;refine Rg.lr 40 (Rg.lo (.int .i64 x) ⟨xb,0,none⟩ (run_loadInt B0.out.cell)) ?_;go_frame;refine Rg.lr 41 (Rg.bn (.bool true) .neq (h:=b_neqB _ (decide_eq_true hx1))) ?_;go_frame;refine Rg.lm 42 (.bool true) ?_;go_frame;refine Rg.lW 43 (exec_field _ rfl rfl (stG0 _ _)) ?_;go_frame;refine Rg.lW 44 (Rg.lo (.int .i64 x) ⟨xb,0,none⟩ (run_loadInt B0.out.cell)) ?_;go_frame;refine Rg.lW 45 (Rg.bn (.bool true) .neq (h:=b_neqB _ (decide_eq_true hx2))) ?_;go_frame;refine Rg.lr 46 (Rg.pT (.bool true)) ?_;go_frame;refine Rg.la 38 (.bool true) ?_;go_frame;go_upto_region 13 with (fail);refine Rg.wl ?_;refine Rg.la 4 (.slice none 0 0) ?_;go_frame;refine Rg.la 5 (.int .i64 ((3:Nat):Int)) ?_;go_frame;go_wp2
      go_ret2
      exact ⟨_,[],3,rfl,.inr (.inr ⟨HZ.out,hul,D,gs,rfl,rfl,by rw [HRC.out (by rw [rnC_3 (s:=(x,y,z)) hx1 hx2]; decide),rnC_3 (s:=(x,y,z)) hx1 hx2],.inl ⟨by decide,rfl⟩⟩),ints_nil _,Rg.acc K0.out K.out⟩
     case pos =>
      by_cases hy:0≤y∧y<(T.length:Int)
      case neg =>
       skip
       go_upto_region 12 with (fail);refine Rg.wl ?_;refine Rg.lr 39 (exec_field _ rfl rfl (stG0 _ _)) ?_;go_frame;refine Rg.lr 40 (Rg.lo (.int .i64 x) ⟨xb,0,none⟩ (run_loadInt B0.out.cell)) ?_;go_frame;refine Rg.lr 41 (Rg.bn (.bool true) .neq (h:=b_neqB _ (decide_eq_true hx1))) ?_;go_frame;refine Rg.lm 42 (.bool true) ?_;go_frame;refine Rg.lW 43 (exec_field _ rfl rfl (stG0 _ _)) ?_;go_frame;refine Rg.lW 44 (Rg.lo (.int .i64 x) ⟨xb,0,none⟩ (run_loadInt B0.out.cell)) ?_;go_frame;refine Rg.lW 45 (Rg.bn (.bool false) .neq (h:=b_neqB _ (decide_eq_false (fun e=>e hx2)))) ?_;go_frame;refine Rg.lr 46 (Rg.pT (.bool false)) ?_;go_frame;refine Rg.la 38 (.bool false) ?_;go_frame;go_upto_region 14 with (fail);refine Rg.wl ?_;refine Rg.lm 48 ((.func (.func 49) #[] #[.pointer (some ⟨cb,0,none⟩)])) ?_;go_frame;refine Rg.lr 49 (exec_field _ rfl rfl (stG1 _ _)) ?_;go_frame;refine Rg.lr 50 (Rg.lo (.int .i64 y) ⟨xb,1,none⟩ (run_loadInt B1.out.cell)) ?_;go_frame
       refine Rg.lk 51 (exec_fnc1 49 _ _ _ rfl rfl rfl (clRun1 _ _)) ?_;refine (run1_any (i:=y) (CL.mk CC.out.c CC.out.lt)).mono ?_;rintro e1 w221 ⟨rfl,hb⟩;rw [show decide (0≤y∧y<(T.length:Int))=false from decide_eq_false hy];refine ⟨_,rfl,?_⟩;go_frame;replace CC:=ι (CC.out.below hb);replace RM:=ι (RM.out.below hb);replace B0:=ι (B0.out.below hb);replace B1:=ι (B1.out.below hb);replace B2:=ι (B2.out.below hb);replace K:=ι (Rg.acc K.out hb);clear hb;refine Rg.lr 52 (exec_not _ _ false rfl rfl) ?_;go_frame;refine Rg.lm 53 (.bool true) ?_;go_frame;refine Rg.lp 54 ?_;go_frame;refine Rg.lp 55 ?_;go_frame;refine Rg.lp 56 ?_;go_frame;refine Rg.lp 57 ?_;go_frame;refine Rg.lp 58 ?_;go_frame;refine Rg.lp 59 ?_;go_frame;refine Rg.lp 60 ?_;go_frame;refine Rg.lp 61 ?_;go_frame;refine Rg.lp 62 ?_;go_frame;refine Rg.lp 63 ?_;go_frame;refine Rg.lr 64 (Rg.pT (.bool true)) ?_;go_frame
       refine Rg.la 47 (.bool true) ?_;go_frame;go_upto_region 15 with (fail);refine Rg.wl ?_;refine Rg.la 4 (.slice none 0 0) ?_;go_frame;refine Rg.la 5 (.int .i64 ((2:Nat):Int)) ?_;go_frame;go_wp2
       go_ret2
       exact ⟨_,[],2,rfl,.inr (.inr ⟨HZ.out,hul,D,gs,rfl,rfl,by rw [HRC.out (by rw [rnC_a (s:=(x,y,z)) (.inr hx2) hy]; decide),rnC_a (s:=(x,y,z)) (.inr hx2) hy],.inl ⟨by decide,rfl⟩⟩),ints_nil _,Rg.acc K0.out K.out⟩
      case pos =>
       skip
       go_upto_region 12 with (fail);refine Rg.wl ?_;refine Rg.lr 39 (exec_field _ rfl rfl (stG0 _ _)) ?_;go_frame;refine Rg.lr 40 (Rg.lo (.int .i64 x) ⟨xb,0,none⟩ (run_loadInt B0.out.cell)) ?_;go_frame;refine Rg.lr 41 (Rg.bn (.bool true) .neq (h:=b_neqB _ (decide_eq_true hx1))) ?_;go_frame;refine Rg.lm 42 (.bool true) ?_;go_frame;refine Rg.lW 43 (exec_field _ rfl rfl (stG0 _ _)) ?_;go_frame;refine Rg.lW 44 (Rg.lo (.int .i64 x) ⟨xb,0,none⟩ (run_loadInt B0.out.cell)) ?_;go_frame;refine Rg.lW 45 (Rg.bn (.bool false) .neq (h:=b_neqB _ (decide_eq_false (fun e=>e hx2)))) ?_;go_frame;refine Rg.lr 46 (Rg.pT (.bool false)) ?_;go_frame;refine Rg.la 38 (.bool false) ?_;go_frame;go_upto_region 14 with (fail);refine Rg.wl ?_;refine Rg.lm 48 ((.func (.func 49) #[] #[.pointer (some ⟨cb,0,none⟩)])) ?_;go_frame;refine Rg.lr 49 (exec_field _ rfl rfl (stG1 _ _)) ?_;go_frame;refine Rg.lr 50 (Rg.lo (.int .i64 y) ⟨xb,1,none⟩ (run_loadInt B1.out.cell)) ?_;go_frame
       refine Rg.lk 51 (exec_fnc1 49 _ _ _ rfl rfl rfl (clRun1 _ _)) ?_;refine (run1_any (i:=y) (CL.mk CC.out.c CC.out.lt)).mono ?_;rintro e1 w252 ⟨rfl,hb⟩;rw [show decide (0≤y∧y<(T.length:Int))=true from decide_eq_true hy];refine ⟨_,rfl,?_⟩;go_frame;replace CC:=ι (CC.out.below hb);replace RM:=ι (RM.out.below hb);replace B0:=ι (B0.out.below hb);replace B1:=ι (B1.out.below hb);replace B2:=ι (B2.out.below hb);replace K:=ι (Rg.acc K.out hb);clear hb;refine Rg.lr 52 (exec_not _ _ true rfl rfl) ?_;go_frame;refine Rg.lm 53 (.bool false) ?_;go_frame;refine Rg.lW 54 (exec_field _ rfl rfl (stG0 _ _)) ?_;go_frame;refine Rg.lW 55 (Rg.lo (.int .i64 x) ⟨xb,0,none⟩ (run_loadInt B0.out.cell)) ?_;go_frame;refine Rg.lW 56 (Rg.bn (.bool false) .eql (h:=b_eql _ (decide_eq_false hx1))) ?_;go_frame;refine Rg.lW 57 (Rg.xm (.bool false) _ rfl rfl) ?_;go_frame;refine Rg.lp 58 ?_;go_frame
       refine Rg.lp 59 ?_;go_frame;refine Rg.lp 60 ?_;go_frame;refine Rg.lp 61 ?_;go_frame;refine Rg.lp 62 ?_;go_frame;refine Rg.lW 63 (Rg.pF (.bool false)) ?_;go_frame;refine Rg.lr 64 (Rg.pF (.bool false)) ?_;go_frame;refine Rg.la 47 (.bool false) ?_;go_frame;go_upto_region 16 with (fail);refine Rg.wl ?_;refine Rg.lr 66 (exec_field _ rfl rfl (stG0 _ _)) ?_;go_frame;refine Rg.lr 67 (Rg.lo (.int .i64 x) ⟨xb,0,none⟩ (run_loadInt B0.out.cell)) ?_;go_frame;refine Rg.lr 68 (Rg.bn (.bool false) .eql (h:=b_eql _ (decide_eq_false hx1))) ?_;go_frame;refine Rg.la 65 (.bool false) ?_;go_frame;obtain ⟨j,rfl⟩:∃ j:Nat,y=((j:Nat):Int):=⟨y.toNat,by omega⟩;have HJ:=ι (show j<T.length by omega);obtain ⟨xj,hxj⟩:∃ q,Hid (T[j]?=some q):=⟨_,ι (List.getElem?_eq_getElem HJ.out)⟩;have GJ:=ι (RG.out.gd xj (List.mem_of_getElem? hxj.out));obtain ⟨fbj,foj,fcj,uj,ej,hcu,heu⟩:=RM.out.at (by omega) HJ.out hxj.out
       simp only [Value.slice.injEq,true_and] at ej;obtain ⟨rfl,rfl⟩:=ej;have CJ:=ι hcu;have EJ:=ι heu;clear hcu heu;have HC0:=ι (show rnC T (x,((j:Nat):Int),z)=0 from rnC_i hx2 hy);have HE0:=ι (show rnE T (x,((j:Nat):Int),z)=Ma.invN xj from rnE_i hx2 (by show T[(((j:Nat):Int)).toNat]?=_; rw [Int.toNat_natCast]; exact hxj.out));go_upto_region 11 with (fail);have hV1:Below w252.heap.size w252 w252.drew:=(Below.refl _ _).drew;replace CC:=ι (CC.out.below hV1);replace RM:=ι (RM.out.below hV1);replace B1:=ι (B1.out.below hV1);replace B2:=ι (B2.out.below hV1);replace CJ:=ι (CJ.out.below hV1);replace EJ:=ι (EJ.out.below hV1);replace K:=ι (Rg.acc K.out hV1);clear hV1;refine Rg.Any.begin (S:=Rg.Tw 9 (fun W:World=>W.cell? ⟨cb,0,none⟩=some (.slice (some ⟨fbj,foj,none⟩) T.length fc)∧W.cell? ⟨xb,1,none⟩=some (.int .i64 ((j:Nat):Int))∧W.cell? ⟨xb,2,none⟩=some (.int .i64 z)) 6 (fun W=>Below w252.drew.heap.size w252.drew W)) mix ?_
       generalize w252.drew=w253 at *;have hS:∀ l:Array Bool,Rg.Tw 9 (fun W:World=>W.cell? ⟨cb,0,none⟩=some (.slice (some ⟨fbj,foj,none⟩) T.length fc)∧W.cell? ⟨xb,1,none⟩=some (.int .i64 ((j:Nat):Int))∧W.cell? ⟨xb,2,none⟩=some (.int .i64 z)) 6 (fun W=>Below w253.heap.size w253 W) l w253:=fun l=>⟨.inr ⟨CC.out.c,B1.out.cell,B2.out.cell⟩,.inr (Below.refl _ _)⟩;refine Rg.Any.takeA (i:=0) (t:=9) (u:=6) (v:=.slice (some ⟨fbj,foj,none⟩) T.length fc) (some 29) rfl rfl (by kernel_rfl) (by kernel_rfl) (by kernel_rfl) (fun _ _ _ h=>h) rfl rfl (by kernel_rfl) rfl (Rg.yc ⟨cb,0,none⟩ (fun W hW=>Rg.run_loadSl _ _ Tryz.underlying22 hW.1)) (hS _) ?_;go_frame;refine Rg.Any.takeA (i:=1) (t:=9) (u:=6) (v:=.slice (some ⟨fbj,foj,none⟩) T.length fc) (some 30) rfl rfl (by kernel_rfl) (by kernel_rfl) (by kernel_rfl) (fun _ _ _ h=>h) rfl rfl (by kernel_rfl) rfl (Rg.yc ⟨cb,0,none⟩ (fun W hW=>Rg.run_loadSl _ _ Tryz.underlying22 hW.1)) (hS _) ?_;go_frame
       refine Rg.Any.takeP (i:=2) (t:=9) (u:=6) (v:=.pointer (some ⟨xb,1,none⟩)) (some 31) rfl rfl (by kernel_rfl) (by kernel_rfl) (by kernel_rfl) (fun _ _ _ h=>h) rfl rfl (.inl ⟨rfl,fun w _=>exec_field _ rfl rfl (stG1 _ _)⟩) (hS _) ?_;go_frame;refine Rg.Any.takeA (i:=3) (t:=9) (u:=6) (v:=.int .i64 ((j:Nat):Int)) (some 32) rfl rfl (by kernel_rfl) (by kernel_rfl) (by kernel_rfl) (fun _ _ _ h=>h) rfl rfl (by kernel_rfl) rfl (Rg.yc ⟨xb,1,none⟩ (fun W hW=>run_loadInt hW.2.1)) (hS _) ?_;go_frame;refine Rg.Any.takeP (i:=4) (t:=9) (u:=6) (v:=.pointer (some ⟨fbj,foj+j,none⟩)) (some 33) rfl rfl (by kernel_rfl) (by kernel_rfl) (by kernel_rfl) (fun _ _ _ h=>h) rfl rfl (Rg.yields_index slPerms _ _ rfl rfl fbj (foj) (T.length) fc (j) rfl rfl HJ.out) (hS _) ?_;go_frame;refine Rg.Any.takeB (i:=5) (t:=9) (u:=6) (v:=uj) (some 34) rfl rfl (by kernel_rfl) (by kernel_rfl) (by kernel_rfl) (fun _ _ _ h=>h) rfl rfl (by kernel_rfl) rfl (Rg.yc ⟨fbj,foj+j,none⟩ (fun W hW=>Rg.run_loadSl _ _ Tryz.underlying30 ((Below.cell (p:=⟨fbj,foj+j,none⟩) hW CJ.out.lt).trans CJ.out.cell))) (hS _) ?_;go_frame
       refine Rg.Any.one (i:=6) (by kernel_rfl) (Rg.Any.ask (some 35) rfl rfl rfl _ _ (exec_fn1 45 _ _ rfl rfl (Bhcl0 _ _)) ?_);refine (fcInv_any _ xj w253 EJ.out.np GJ.out.1 (by rw [GJ.out.2]; omega) (by rw [GJ.out.2]; exact hn1)).mono ?_;rintro e1 w254 ⟨mv,rfl,hmv,hb⟩;have hem:EX w254 cb (.slice (some ⟨fbj,foj,none⟩) T.length fc) mv (Ma.ofN (Ma.invN xj)):=EX.new hmv CC.out.lt (fun q hq=>(RM.out.lt1 q hq).2)
       obtain ⟨ma,mn,mc,hms⟩:∃ a n c,mv=.slice a n c:=by
        obtain ⟨a,c,e,-⟩:=hem.ints.shape;exact ⟨_,_,_,e⟩
       subst hms;have hrm:=RM.out.below hb;have hcw:=CC.out.below hb;have hb1:=B1.out.below hb;have hb2:=B2.out.below hb;have hkk:=Rg.acc K.out hb;clear hb hmv;refine ⟨_,rfl,⟨.inr ⟨hcw.c,hb1.cell,hb2.cell⟩,.inl rfl⟩,?_⟩;go_frame;obtain ⟨a9,c9,X9,r1,hrm2,hkp⟩:=hrm.push hcw.lt hem ⟨_,_,_,rfl⟩ (by omega) 22;have hba:Below w254.heap.size w254 (w254.alloc (.cells #[.slice ma mn mc] 30)):=(Below.refl _ _).alloc (Nat.le_refl _) _;have hcw2:=hcw.below hba;have hb12:=hb1.below hba;have hb22:=hb2.below hba;have hcx:CW X9 cb (.slice (some ⟨fbj,foj,none⟩) T.length fc):=hcw.kp hkp (fun e=>hrm.off e);have hbx1:CL X9 xb 1 (.int .i64 ((j:Nat):Int)):=hb1.kp hkp (fun e=>HXN.out xb e rfl);have hbx2:CL X9 xb 2 (.int .i64 z):=hb2.kp hkp (fun e=>HXN.out xb e rfl);clear hba;refine Rg.Any.one (i:=7) (by kernel_rfl) (Rg.Any.run (some 36) rfl rfl rfl (Rg.exec_buildSlice _ _ _ rfl (.slice ma mn mc) rfl (run_build1P w254 _ ⟨_,_,_,rfl⟩)) ⟨.inr ⟨hcw2.c,hb12.cell,hb22.cell⟩,.inl rfl⟩ ?_)
       go_frame;refine Rg.Any.one (i:=8) (by kernel_rfl) (Rg.Any.run (some 37) rfl rfl rfl (Rg.exec_append _ _ _ rfl rfl rfl r1) ⟨.inr ⟨hcx.c,hbx1.cell,hbx2.cell⟩,.inl rfl⟩ ?_);go_frame;refine Rg.Any.one (i:=9) (by kernel_rfl) (Rg.Any.runSkip none rfl rfl rfl (Rg.exec_store _ _ _ rfl _ rfl _ rfl (Rg.run_storeSl _ infoPermsV hcx.c hcx.f)) ⟨.inl rfl,.inl rfl⟩ ?_);go_frame;refine Rg.Any.done (by kernel_rfl) ?_ _;have hrm3:=hrm2.set (.slice a9 (T.length+1) c9);have hcx2:=hcx.set (.slice a9 (T.length+1) c9);have hkx:=(Rg.Kp.below hkk hkp (fun k e=>(hrm.lt1 k e).1)).setCell (p:=⟨cb,0,none⟩) HCB.out (.slice a9 (T.length+1) c9);generalize X9.setCell ⟨cb,0,none⟩ (.slice a9 (T.length+1) c9)=W9 at *;have CC9:=ι hcx2;have RM9:=ι hrm3;have K9:=ι hkx;have RG9:=ι (RG.out.next (show Gd D (Ma.invN xj) from Cm.gd_inv GJ.out));have RE9:=ι (show rn (S.drop (i+1)) (T++[(Ma.invN xj)])=rn S gs by have:=HRO.out HC0.out; rwa [HE0.out] at this)
       clear hrm3 hcx2 hkx hcx hbx1 hbx2 hrm2 hkp r1 hcw hcw2 hb1 hb2 hb12 hb22 hrm hkk hem hS CC RM B1 B2 CJ EJ K;go_upto_region 18 with (fail);refine Rg.wl ?_;refine Rg.lr 83 (Rg.bn (.int .i64 (((i+1):Nat):Int)) .add (h:=b_add _ (by omega) (by omega))) ?_;go_frame;refine Rg.lm 25 (.int .i64 (((i+1):Nat):Int)) ?_;go_frame;go_wp2
       go_roundw
       case rel=>exact ⟨i+1,_,_,by go_num,HIL.out,CC9,RM9,RE9,RG9,K9⟩
       case measure=>simp [intOf]; have:=HIL.out; omega
end Go.Proofs.YtdnmmibchbceeaaGreat

namespace Go.Proofs.YtdnmmibchbceeaaGreat
open Go.RowKit
open Go.Proofs
open Go.Proofs.Ob
open Go.Sort
open Go.Proofs.Cm (Gd Gr IsChain ap)
attribute [local irreducible] Go.Calls Go.wpList
theorem Dmcl1 (args:Array Value) (w:World):(callFunc 22 args).run Tryz.prog w=.ok (.enter 22 args) w:=by kernel_rfl
theorem Dmcl2 (args:Array Value) (w:World):(callFunc 20 args).run Tryz.prog w=.ok (.enter 20 args) w:=by kernel_rfl
theorem Dmcl3 (args:Array Value) (w:World):(callFunc 26 args).run Tryz.prog w=.ok (.enter 26 args) w:=by kernel_rfl
theorem Dmcl6 (args:Array Value) (w:World):(callFunc 16 args).run Tryz.prog w=.ok (.enter 16 args) w:=by kernel_rfl
theorem Dmcl8 (args:Array Value) (w:World):(callFunc 28 args).run Tryz.prog w=.ok (.enter 28 args) w:=by kernel_rfl
theorem Dmcl9 (args:Array Value) (w:World):(callFunc 11 args).run Tryz.prog w=.ok (.enter 11 args) w:=by kernel_rfl
theorem five10_any (w:World):Calls Tryz.prog 26 #[] w (GPost 5 [[1,2,3,4,0]] w):=by
 go_enter Tryz.func26,Tryz.ntmps26
 go_upto_region 1 with (fail);generalize hW:w.alloc (.cells #[.int .i64 0,.slice none 0 0] 24)=W0
 have hsz:W0.heap.size=w.heap.size+1:=by rw [← hW]; simp
 have hbW:Below w.heap.size w W0:=by rw [← hW]; exact (Below.refl _ _).alloc (Nat.le_refl _) _
 have hc1:W0.cell? ⟨w.heap.size,0,none⟩=some (.int .i64 0):=by rw [← hW,Rg.cellNew]; rfl
 have hc2:W0.cell? ⟨w.heap.size,1,none⟩=some (.slice none 0 0):=by rw [← hW,Rg.cellNew]; rfl
 have hf1:∀ o,W0.frozen? ⟨w.heap.size,o,none⟩=false:=fun o=>by rw [← hW]; exact frozenNewN _ _ _ 0 _
 clear hW;refine Rg.wl ?_;have i1:=ints_new W0 3 [1,2,3,4,0] (by decide);have b1:Below W0.heap.size W0 _:=(Below.refl W0.heap.size W0).alloc (Nat.le_refl _) (.cells (([1,2,3,4,0]:List Int).map (Value.int .i64)).toArray 3);refine Rg.lr 1 (exec_flat _ _ 5 _ rfl [1,2,3,4,0] Tryz.underlying30 szInt zInt rfl (by decide) (by decide) rfl) ?_;go_frame;generalize W0.alloc (.cells (([1,2,3,4,0]:List Int).map (Value.int .i64)).toArray 3)=W1 at *
 have g3:=rowsF_new (B:=w.heap.size+1) (w:=W1) 30 [.slice (some ⟨W0.heap.size,0,none⟩) 5 5] [[1,2,3,4,0]] rfl (by simp) (by
  have s1:=b1.size;intro i h h2
  match i,h,h2 with
  | 0,_,_=>exact ⟨i1,(Rg.Fresh.mk _ _ _ _).mono (by omega)⟩) (by have s1:=b1.size; omega)
 have bz:Below W1.heap.size W1 _:=(Below.refl W1.heap.size W1).alloc (Nat.le_refl _) (.cells #[.slice (some ⟨W0.heap.size,0,none⟩) 5 5] 30);refine Rg.lr 2 (Rg.exec_buildSlice _ _ _ rfl (.slice (some ⟨W0.heap.size,0,none⟩) 5 5) rfl (run_build1P W1 _ ⟨_,_,_,rfl⟩)) ?_;go_frame;have hb3:=(Rg.acc b1 bz);clear bz b1 i1;have g4:RowsF (w.heap.size+1) (W1.alloc (.cells #[.slice (some ⟨W0.heap.size,0,none⟩) 5 5] 30)) (.slice (some ⟨W1.heap.size,0,none⟩) 1 1) [[1,2,3,4,0]]:=g3;clear g3;generalize W1.alloc (.cells #[.slice (some ⟨W0.heap.size,0,none⟩) 5 5] 30)=Z at *;refine Rg.lr 3 (exec_buildG (d:=5) _ _ rfl rfl rfl) ?_;go_frame;obtain ⟨kc,kf⟩:=Rg.bcell hb3
 have lt1:w.heap.size<W0.heap.size:=by omega
 have r0:=(kc _ 0 lt1).trans hc1;have r1:=(kc _ 1 lt1).trans hc2;have rf:=fun o=>(kf _ o lt1).trans (hf1 o);obtain ⟨p0,p1,p2⟩:=group_set (.int .i64 5) (.slice (some ⟨W1.heap.size,0,none⟩) 1 1) r0 r1 (Rg.acc hbW hb3) (by omega);have hR:=((g4.set w.heap.size 0 (.int .i64 5) (by omega)).set w.heap.size 1 (.slice (some ⟨W1.heap.size,0,none⟩) 1 1) (by omega)).mono (B':=w.heap.size) (by omega);refine Rg.list_skip none rfl rfl (Rg.exec_store _ _ _ rfl _ rfl _ rfl (run_storeG 5 _ 1 1 r0 r1 (rf 0) (rf 1))) ?_;go_frame;generalize (Z.setCell ⟨w.heap.size,0,none⟩ (.int .i64 5)).setCell ⟨w.heap.size,1,none⟩ (.slice (some ⟨W1.heap.size,0,none⟩) 1 1)=W6 at *;have H:=ι (And.intro p0 (And.intro p1 (And.intro p2 hR)));clear hc1 hc2 hf1 kc kf r0 r1 rf p0 p1 p2 hR g4;go_wp2;exact bodyPost_ret (results_cellG rfl _ rfl H.out.1 H.out.2.1) rfl ⟨_,_,_,rfl,H.out.2.2.2,H.out.2.2.1⟩
def G5:List (List Nat):=[[1,2,3,4,0]]
theorem bf5:BfE (mlets G5) 5 (bfs (mlets G5) 5 5):=⟨5,rfl,by decide +kernel⟩
theorem ltV_known {x:List Nat} (hN:N≤6) {st:BSt} (hb:BfE (mlets gs) N st) (hr:rgC ((N:Nat):Int) (gs.map Ma.ofN) (Ma.ofN x)=0) {c:Int} (h:LtV ((N:Nat):Int) (gs.map Ma.ofN) (Ma.ofN x) l c) :
  (x∉st.1∧c=18∧l=[])∨(x∈st.1∧c=0∧l=wdOf st x):=by
 rcases h with ⟨h,_⟩ | ⟨_,N',gs',O,R,x',e1,e2,e3,gx,hgd,hch,⟨h2,_⟩ | ⟨h2,st',hbe,h3⟩⟩
 ·exact absurd hr h
 ·exfalso
  have h7:=prodK_720 (Cm.Gr.isG hgd) hch (by omega) (Nat.le_refl N');rw [szD_len hch] at h7;omega
 ·obtain rfl:N=N':=by omega
  have e4:=map_ofN_inj e2;subst e4;have e5:x=x':=Ma.ofN_inj e3;subst e5;have:=hbe.uniq hb;subst this;exact h3
theorem grV_known (hN:N≤6) {st:BSt} (hb:BfE (mlets gs) N st) (hr:Ma.gchk ((N:Nat):Int) (gs.map Ma.ofN)=0) {c:Int} (h:GrV ((N:Nat):Int) (gs.map Ma.ofN) l c) :
  c=0∧∃ wl,st.2[st.2.length - 1]?=some wl∧l=(List.range (wl.length+1)).map (cnL st st.1):=by
 rcases h with ⟨h,_⟩ | ⟨_,N',gs',O,R,e1,e2,hN1,hgd,hch,⟨h2,_⟩ | ⟨h2,hc,st',wl,hbe,h3,h4⟩⟩
 ·exact absurd hr h
 ·exfalso
  have h7:=prodK_720 (Cm.Gr.isG hgd) hch (by omega) (Nat.le_refl N');rw [szD_len hch] at h7;omega
 ·obtain rfl:N=N':=by omega
  have e4:=map_ofN_inj e2;subst e4;have:=hbe.uniq hb;subst this;exact ⟨hc,wl,h3,h4⟩
theorem lt_a {c:Int} (h:LtV 3 [[1,0,2],[0,2,1]] [2,1,0] l c):l=[1,2,1]∧c=0:=by
 rcases ltV_known (N:=3) (gs:=G3) (x:=[2,1,0]) (by decide) bf3 (by decide +kernel) h with ⟨h1,_⟩ | ⟨_,h2,h3⟩
 ·exact absurd h1 (by decide +kernel)
 ·exact ⟨h3.trans (by decide +kernel),h2⟩
theorem lt_b {c:Int} (h:LtV 5 [[1,2,3,4,0]] [3,4,0,1,2] l c):l=[-1,-1]∧c=0:=by
 rcases ltV_known (N:=5) (gs:=G5) (x:=[3,4,0,1,2]) (by decide) bf5 (by decide +kernel) h with ⟨h1,_⟩ | ⟨_,h2,h3⟩
 ·exact absurd h1 (by decide +kernel)
 ·exact ⟨h3.trans (by decide +kernel),h2⟩
theorem lt_c {c:Int} (h:LtV 5 [[1,2,3,4,0]] [1,0,2,3,4] l c):l=[]∧c=18:=by
 rcases ltV_known (N:=5) (gs:=G5) (x:=[1,0,2,3,4]) (by decide) bf5 (by decide +kernel) h with ⟨_,h2,h3⟩ | ⟨h1,_⟩
 ·exact ⟨h3,h2⟩
 ·exact absurd h1 (by decide +kernel)
theorem gr_a {c:Int} (h:GrV 3 [[1,0,2],[0,2,1]] l c):l=[1,2,2,1]∧c=0:=by
 obtain ⟨h1,wl,h2,h3⟩:=grV_known (N:=3) (gs:=G3) (by decide) bf3 (by decide) h
 have e:wl=[1,2,1]:=by
  have:(bfs (mlets G3) 3 6).2[(bfs (mlets G3) 3 6).2.length - 1]?=some [1,2,1]:=by decide +kernel
  rw [this] at h2; exact (Option.some.inj h2).symm
 subst e;exact ⟨h3.trans (by decide +kernel),h1⟩
theorem gr_b {c:Int} (h:GrV 5 [[1,2,3,4,0]] l c):l=[1,2,2]∧c=0:=by
 obtain ⟨h1,wl,h2,h3⟩:=grV_known (N:=5) (gs:=G5) (by decide) bf5 (by decide) h
 have e:wl=[-1,-1]:=by
  have:(bfs (mlets G5) 5 5).2[(bfs (mlets G5) 5 5).2.length - 1]?=some [-1,-1]:=by decide +kernel
  rw [this] at h2; exact (Option.some.inj h2).symm
 subst e;exact ⟨h3.trans (by decide +kernel),h1⟩
theorem pg_c {S:List Stp} {c:Int} (h:PgV 5 [[1,2,3,4,0]] [1,0,2,3,4] S c):S=[]∧c=18:=by
 rcases h with ⟨h,_⟩ | ⟨_,h,_⟩ | ⟨_,_,N,gs,x,e1,e2,e3,gx,hgd,⟨_,h1,h2⟩ | ⟨h1,_⟩⟩
 ·exact absurd (by decide +kernel) h
 ·exact absurd h (by decide)
 ·exact ⟨h2,h1⟩
 ·exfalso
  obtain rfl:N=5:=by omega
  have e4:G5=gs:=map_ofN_inj (show G5.map Ma.ofN=gs.map Ma.ofN from e2);subst e4;have e5:([1,0,2,3,4]:List Nat)=x:=Ma.ofN_inj (show Ma.ofN [1,0,2,3,4]=Ma.ofN x from e3);subst e5;exact absurd (bf5.all hgd h1) (by decide +kernel)
theorem rn_x {c:Int} (h:RnV 3 [[1,0,2],[0,2,1]] [(1,0,1),(1,2,0)] l c):l=[2,1,0]∧c=0 :=
 h.uniq (.inr (.inr ⟨gchk3,by decide,3,G3,rfl,rfl,by decide,.inr ⟨rfl,by decide⟩⟩))
theorem rn_y {c:Int} (h:RnV 3 [[1,0,2],[0,2,1]] [] l c):l=[0,1,2]∧c=0 :=
 h.uniq (.inr (.inr ⟨gchk3,by decide,3,G3,rfl,rfl,by decide,.inr ⟨rfl,by decide⟩⟩))
theorem rn_z {c:Int} (h:RnV 3 [[1,0,2],[0,2,1]] [(1,0,2)] l c):l=[]∧c=2 :=
 h.uniq (.inr (.inr ⟨gchk3,by decide,3,G3,rfl,rfl,by decide,.inl ⟨by decide,rfl⟩⟩))
theorem rn_u {c:Int} (h:RnV 3 [[1,0,2],[0,2,1]] [(3,0,0)] l c):l=[]∧c=3 :=
 h.uniq (.inr (.inr ⟨gchk3,by decide,3,G3,rfl,rfl,by decide,.inl ⟨by decide,rfl⟩⟩))
theorem ev_n {c:Int} (h:EvV 3 [[1,0,2],[0,2,1]] [3] l c):l=[]∧c=2 :=
 h.uniq (.inr (.inr (.inl ⟨gchk3,by decide,by unfold okW; decide,rfl,rfl⟩)))
theorem exec_buildS0 {o:Oper} {a:Act} {i:Int} (x:Operand) (ho:o.op=.build 51 #[(0,x)]) (hx:a.eval x=.int .i64 i) :
  (execOp a.eval o).run Tryz.prog w=.ok (.value (.agg #[.int .i64 i,.int .i64 0,.int .i64 0])) w:=by
 unfold execOp;simp only [ho,Sem.run_bind,Sem.run_pure];simp only [List.map_toArray,List.map_cons,List.map_nil,hx]
 have h:(Instr.build 51 #[(0,.int .i64 i)]).run Tryz.prog w=.ok (.agg #[.int .i64 i,.int .i64 0,.int .i64 0]) w:=by kernel_rfl
 first | (rw [h]; rfl) | (erw [h]; rfl)
theorem run_build2St (X:World) (a b c d e f:Int):(Instr.buildSlice 36 2 #[(0,.agg #[.int .i64 a,.int .i64 b,.int .i64 c]),(1,.agg #[.int .i64 d,.int .i64 e,.int .i64 f])]).run Tryz.prog X=.ok (.slice (some ⟨X.heap.size,0,none⟩) 2 2) (X.alloc (.cells #[.int .i64 a,.int .i64 b,.int .i64 c,.int .i64 d,.int .i64 e,.int .i64 f] 51)):=by
 obtain ⟨i0,hi,hz0,hz1,hz2⟩:=info_parts infoSt;refine run_buildSlice X 36 51 2 _ _ i0 _ Tryz.underlying36 hi hz0 (by rw [hz1]; decide) (by rw [hz1]; decide) ?_;generalize (fun x=>((Value.agg #[.int .i64 0,.int .i64 0,.int .i64 0]).cells)[x % (Value.agg #[.int .i64 0,.int .i64 0,.int .i64 0]).cells.size]!)=f;rw [hz1];have h1:Array.range (2*3)=#[0,1,2,3,4,5]:=rfl;simp [Instr.fill,Value.cells,h1]
theorem sta_one (X:World) (a b c:Int) (t:TypeId):StA (X.alloc (.cells #[.int .i64 a,.int .i64 b,.int .i64 c] t)) (.slice (some ⟨X.heap.size,0,none⟩) 1 1) [(a,b,c)]:=by
 refine ⟨_,_,rfl,fun _=>⟨X.heap.size,0,rfl,by simp,fun i hi=>?_⟩⟩
 obtain rfl:i=0:=by simpa using hi
 refine ⟨?_,?_,?_⟩ <;> (rw [Rg.cellNew]; rfl)
theorem sta_two (X:World) (a b c d e f:Int) (t:TypeId):StA (X.alloc (.cells #[.int .i64 a,.int .i64 b,.int .i64 c,.int .i64 d,.int .i64 e,.int .i64 f] t)) (.slice (some ⟨X.heap.size,0,none⟩) 2 2) [(a,b,c),(d,e,f)]:=by
 refine ⟨_,_,rfl,fun _=>⟨X.heap.size,0,rfl,by simp,fun i hi=>?_⟩⟩
 match i,hi with
 | 0,_=>refine ⟨?_,?_,?_⟩ <;> (rw [Rg.cellNew]; rfl)
 | 1,_=>refine ⟨?_,?_,?_⟩ <;> (rw [Rg.cellNew]; rfl)
theorem FactorKnown_any (w:World):Calls Tryz.prog 6 #[] w fun e w'=>e=.returned (.bool true)∧Below w.heap.size w w':=by
 have K:=ι (Below.refl w.heap.size w)
 go_enter Tryz.func6,Tryz.ntmps6
 go_upto_region 0 with (fail);refine Rg.wl ?_;refine Rg.la 0 (.bool false) ?_;go_frame;go_upto_region 1 with (fail);refine Rg.wl ?_;refine Rg.lk 26 (exec_fn0 25 _ rfl (Bncl0 _ _)) ?_;refine (three10_any w).mono ?_;rintro e1 w1 ⟨ga,gn,gc,rfl,hgr,hb⟩;have hgr2:=hgr.rows;refine ⟨_,rfl,?_⟩;go_frame;replace K:=ι (Rg.acc K.out hb);clear hb;have GR:=ι (RsO.mk hgr2);have hnew:=ints_new w1 3 [2,1,0] (by decide);refine Rg.lr 27 (exec_flat _ _ 3 _ rfl [2,1,0] Tryz.underlying30 szInt zInt rfl (by decide) (by decide) rfl) ?_;go_frame;have hb:=(Below.refl w1.heap.size w1).alloc (Nat.le_refl _) (.cells (([2,1,0]:List Int).map (Value.int .i64)).toArray 3);generalize w1.alloc (.cells (([2,1,0]:List Int).map (Value.int .i64)).toArray 3)=w2 at *;replace GR:=ι (GR.out.below hb);replace K:=ι (Rg.acc K.out hb);clear hb;have P1:=ι hnew;clear hnew;clear hgr hgr2;refine Rg.lk 28 (exec_fn 22 _ _ _ rfl rfl rfl (Dmcl1 _ _)) ?_
 refine (fcLeast_any _ _ 3 [[1,0,2],[0,2,1]] [2,1,0] w2 GR.out.r P1.out (by decide)).mono ?_;rintro e1 w3 ⟨rv,rl,rc,rfl,hev,hri,hb⟩;obtain ⟨rfl,rfl⟩:=lt_a hev;obtain ⟨ra1,rc1,hsh,-⟩:=hri.shape;subst hsh;clear hev;refine ⟨_,rfl,?_⟩;go_frame;replace GR:=ι (GR.out.below hb);replace P1:=ι (P1.out.below hb);replace K:=ι (Rg.acc K.out hb);clear hb;have H1:=ι (NpI.mk hri);refine Rg.lm 25 (.tuple #[.slice ra1 3 rc1,.int .i64 0]) ?_;go_frame;refine Rg.lr 29 (Rg.ex (.slice ra1 3 rc1)) ?_;go_frame;refine Rg.lr 30 (Rg.ex (.int .i64 0)) ?_;go_frame;refine Rg.la 1 (.slice ra1 3 rc1) ?_;go_frame;refine Rg.la 2 (.int .i64 0) ?_;go_frame;clear hri;clear GR P1;go_upto_region 2 with (fail);refine Rg.wl ?_;refine Rg.lk 32 (exec_fn0 25 _ rfl (Bncl0 _ _)) ?_;refine (three10_any w3).mono ?_;rintro e1 w4 ⟨ga,gn,gc,rfl,hgr,hb⟩;have hgr2:=hgr.rows;refine ⟨_,rfl,?_⟩;go_frame
 replace H1:=ι (H1.out.below hb);replace K:=ι (Rg.acc K.out hb);clear hb;have GR:=ι (RsO.mk hgr2);clear hgr hgr2;refine Rg.lk 33 (exec_fn1 20 _ _ rfl rfl (Dmcl2 _ _)) ?_;refine (fcGrowth_any _ 3 [[1,0,2],[0,2,1]] w4 GR.out.r (by decide)).mono ?_;rintro e1 w5 ⟨rv,rl,rc,rfl,hev,hri,hb⟩;obtain ⟨rfl,rfl⟩:=gr_a hev;obtain ⟨ra2,rc2,hsh,-⟩:=hri.shape;subst hsh;clear hev;refine ⟨_,rfl,?_⟩;go_frame;replace H1:=ι (H1.out.below hb);replace GR:=ι (GR.out.below hb);replace K:=ι (Rg.acc K.out hb);clear hb;have H2:=ι (NpI.mk hri);refine Rg.lm 31 (.tuple #[.slice ra2 4 rc2,.int .i64 0]) ?_;go_frame;refine Rg.lr 34 (Rg.ex (.slice ra2 4 rc2)) ?_;go_frame;refine Rg.lr 35 (Rg.ex (.int .i64 0)) ?_;go_frame;refine Rg.la 3 (.slice ra2 4 rc2) ?_;go_frame;refine Rg.la 4 (.int .i64 0) ?_;go_frame;clear hri;clear GR;go_upto_region 3 with (fail);refine Rg.wl ?_;refine Rg.lk 37 (exec_fn0 26 _ rfl (Dmcl3 _ _)) ?_
 refine (five10_any w5).mono ?_;rintro e1 w6 ⟨ga,gn,gc,rfl,hgr,hb⟩;have hgr2:=hgr.rows;refine ⟨_,rfl,?_⟩;go_frame;replace H1:=ι (H1.out.below hb);replace H2:=ι (H2.out.below hb);replace K:=ι (Rg.acc K.out hb);clear hb;have GR:=ι (RsO.mk hgr2);clear hgr hgr2;refine Rg.lk 38 (exec_fn1 20 _ _ rfl rfl (Dmcl2 _ _)) ?_;refine (fcGrowth_any _ 5 [[1,2,3,4,0]] w6 GR.out.r (by decide)).mono ?_;rintro e1 w7 ⟨rv,rl,rc,rfl,hev,hri,hb⟩;obtain ⟨rfl,rfl⟩:=gr_b hev;obtain ⟨ra3,rc3,hsh,-⟩:=hri.shape;subst hsh;clear hev;refine ⟨_,rfl,?_⟩;go_frame;replace H1:=ι (H1.out.below hb);replace H2:=ι (H2.out.below hb);replace GR:=ι (GR.out.below hb);replace K:=ι (Rg.acc K.out hb);clear hb;have H3:=ι (NpI.mk hri);refine Rg.lm 36 (.tuple #[.slice ra3 3 rc3,.int .i64 0]) ?_;go_frame;refine Rg.lr 39 (Rg.ex (.slice ra3 3 rc3)) ?_;go_frame;refine Rg.lr 40 (Rg.ex (.int .i64 0)) ?_;go_frame
 refine Rg.la 5 (.slice ra3 3 rc3) ?_;go_frame;refine Rg.la 6 (.int .i64 0) ?_;go_frame;clear hri;clear GR;go_upto_region 4 with (fail);refine Rg.wl ?_;refine Rg.lk 42 (exec_fn0 26 _ rfl (Dmcl3 _ _)) ?_;refine (five10_any w7).mono ?_;rintro e1 w8 ⟨ga,gn,gc,rfl,hgr,hb⟩;have hgr2:=hgr.rows;refine ⟨_,rfl,?_⟩;go_frame;replace H1:=ι (H1.out.below hb);replace H2:=ι (H2.out.below hb);replace H3:=ι (H3.out.below hb);replace K:=ι (Rg.acc K.out hb);clear hb;have GR:=ι (RsO.mk hgr2);have hnew:=ints_new w8 3 [3,4,0,1,2] (by decide);refine Rg.lr 43 (exec_flat _ _ 5 _ rfl [3,4,0,1,2] Tryz.underlying30 szInt zInt rfl (by decide) (by decide) rfl) ?_;go_frame;have hb:=(Below.refl w8.heap.size w8).alloc (Nat.le_refl _) (.cells (([3,4,0,1,2]:List Int).map (Value.int .i64)).toArray 3);generalize w8.alloc (.cells (([3,4,0,1,2]:List Int).map (Value.int .i64)).toArray 3)=w9 at *
 replace H1:=ι (H1.out.below hb);replace H2:=ι (H2.out.below hb);replace H3:=ι (H3.out.below hb);replace GR:=ι (GR.out.below hb);replace K:=ι (Rg.acc K.out hb);clear hb;have P1:=ι hnew;clear hnew;clear hgr hgr2;refine Rg.lk 44 (exec_fn 22 _ _ _ rfl rfl rfl (Dmcl1 _ _)) ?_;refine (fcLeast_any _ _ 5 [[1,2,3,4,0]] [3,4,0,1,2] w9 GR.out.r P1.out (by decide)).mono ?_;rintro e1 w10 ⟨rv,rl,rc,rfl,hev,hri,hb⟩;obtain ⟨rfl,rfl⟩:=lt_b hev;obtain ⟨ra4,rc4,hsh,-⟩:=hri.shape;subst hsh;clear hev;refine ⟨_,rfl,?_⟩;go_frame;replace H1:=ι (H1.out.below hb);replace H2:=ι (H2.out.below hb);replace H3:=ι (H3.out.below hb);replace GR:=ι (GR.out.below hb);replace P1:=ι (P1.out.below hb);replace K:=ι (Rg.acc K.out hb);clear hb;have H4:=ι (NpI.mk hri);refine Rg.lm 41 (.tuple #[.slice ra4 2 rc4,.int .i64 0]) ?_;go_frame;refine Rg.lr 45 (Rg.ex (.slice ra4 2 rc4)) ?_;go_frame
 refine Rg.lr 46 (Rg.ex (.int .i64 0)) ?_;go_frame;refine Rg.la 7 (.slice ra4 2 rc4) ?_;go_frame;refine Rg.la 8 (.int .i64 0) ?_;go_frame;clear hri;clear GR P1;go_upto_region 5 with (fail);refine Rg.wl ?_;have hnew:=ints_new w10 3 [1,(-2),1] (by decide);refine Rg.lr 47 (exec_flat _ _ 3 _ rfl [1,(-2),1] Tryz.underlying26 szInt zInt rfl (by decide) (by decide) rfl) ?_;go_frame;have hb:=(Below.refl w10.heap.size w10).alloc (Nat.le_refl _) (.cells (([1,(-2),1]:List Int).map (Value.int .i64)).toArray 3);generalize w10.alloc (.cells (([1,(-2),1]:List Int).map (Value.int .i64)).toArray 3)=w11 at *;replace H1:=ι (H1.out.below hb);replace H2:=ι (H2.out.below hb);replace H3:=ι (H3.out.below hb);replace H4:=ι (H4.out.below hb);replace K:=ι (Rg.acc K.out hb);clear hb;have A1:=ι hnew;clear hnew;have hnew:=ints_new w11 3 [2,1,0] (by decide);refine Rg.lr 48 (exec_flat _ _ 3 _ rfl [2,1,0] Tryz.underlying30 szInt zInt rfl (by decide) (by decide) rfl) ?_;go_frame
 have hb:=(Below.refl w11.heap.size w11).alloc (Nat.le_refl _) (.cells (([2,1,0]:List Int).map (Value.int .i64)).toArray 3);generalize w11.alloc (.cells (([2,1,0]:List Int).map (Value.int .i64)).toArray 3)=w12 at *;replace H1:=ι (H1.out.below hb);replace H2:=ι (H2.out.below hb);replace H3:=ι (H3.out.below hb);replace H4:=ι (H4.out.below hb);replace A1:=ι (A1.out.below hb);replace K:=ι (Rg.acc K.out hb);clear hb;have A2:=ι hnew;clear hnew;refine Rg.lk 49 (exec_fn 27 _ _ _ rfl rfl rfl (Bncl4 _ _)) ?_;refine (evals_yes A1.out A2.out (by decide) (by unfold okW; decide) (by decide +kernel)).mono ?_;rintro e1 w13 ⟨rfl,hb⟩;refine ⟨_,rfl,?_⟩;go_frame;replace H1:=ι (H1.out.below hb);replace H2:=ι (H2.out.below hb);replace H3:=ι (H3.out.below hb);replace H4:=ι (H4.out.below hb);replace A1:=ι (A1.out.below hb);replace A2:=ι (A2.out.below hb);replace K:=ι (Rg.acc K.out hb)
 clear hb;refine Rg.lm 50 (.bool true) ?_;go_frame;refine Rg.lW 51 (Rg.xm (.int .i64 0) _ rfl rfl) ?_;go_frame;refine Rg.lW 52 (exec_eqI _ _ rfl rfl rfl rfl) ?_;go_frame;refine Rg.lr 53 (Rg.pT (.bool true)) ?_;go_frame;refine Rg.lm 54 (.bool true) ?_;go_frame;refine Rg.lW 55 (Rg.xm (.slice ra1 3 rc1) _ rfl rfl) ?_;go_frame;have hnew:=ints_new w13 3 [1,2,1] (by decide);refine Rg.lW 56 (exec_flat _ _ 3 _ rfl [1,2,1] Tryz.underlying26 szInt zInt rfl (by decide) (by decide) rfl) ?_;go_frame;have hb:=(Below.refl w13.heap.size w13).alloc (Nat.le_refl _) (.cells (([1,2,1]:List Int).map (Value.int .i64)).toArray 3);generalize w13.alloc (.cells (([1,2,1]:List Int).map (Value.int .i64)).toArray 3)=w14 at *;replace H1:=ι (H1.out.below hb);replace H2:=ι (H2.out.below hb);replace H3:=ι (H3.out.below hb);replace H4:=ι (H4.out.below hb);replace A1:=ι (A1.out.below hb);replace A2:=ι (A2.out.below hb)
 replace K:=ι (Rg.acc K.out hb);clear hb;have A3:=ι hnew;clear hnew;refine listW_ask (some 57) rfl rfl _ _ (exec_fn 15 _ _ _ rfl rfl rfl (Bncl2 _ _)) ?_;refine (Same_any (w0:=w14) (b:=true) H1.out.i A3.out (ι (decide_eq_true rfl)) (Below.refl _ _)).mono ?_;rintro e1 w15 ⟨rfl,hb⟩;refine ⟨_,rfl,?_⟩;go_frame;replace H1:=ι (H1.out.below hb);replace H2:=ι (H2.out.below hb);replace H3:=ι (H3.out.below hb);replace H4:=ι (H4.out.below hb);replace A1:=ι (A1.out.below hb);replace A2:=ι (A2.out.below hb);replace A3:=ι (A3.out.below hb);replace K:=ι (Rg.acc K.out hb);clear hb;refine Rg.lr 58 (Rg.pT (.bool true)) ?_;go_frame;refine Rg.lm 59 (.bool true) ?_;go_frame;refine Rg.lW 60 (Rg.xm (.int .i64 0) _ rfl rfl) ?_;go_frame;refine Rg.lW 61 (exec_eqI _ _ rfl rfl rfl rfl) ?_;go_frame;refine Rg.lr 62 (Rg.pT (.bool true)) ?_;go_frame;refine Rg.lm 63 (.bool true) ?_;go_frame;refine Rg.lW 64 (Rg.xm (.slice ra2 4 rc2) _ rfl rfl) ?_;go_frame
 have hnew:=ints_new w15 3 [1,2,2,1] (by decide);refine Rg.lW 65 (exec_flat _ _ 4 _ rfl [1,2,2,1] Tryz.underlying25 szInt zInt rfl (by decide) (by decide) rfl) ?_;go_frame;have hb:=(Below.refl w15.heap.size w15).alloc (Nat.le_refl _) (.cells (([1,2,2,1]:List Int).map (Value.int .i64)).toArray 3);generalize w15.alloc (.cells (([1,2,2,1]:List Int).map (Value.int .i64)).toArray 3)=w16 at *;replace H1:=ι (H1.out.below hb);replace H2:=ι (H2.out.below hb);replace H3:=ι (H3.out.below hb);replace H4:=ι (H4.out.below hb);replace A1:=ι (A1.out.below hb);replace A2:=ι (A2.out.below hb);replace A3:=ι (A3.out.below hb);replace K:=ι (Rg.acc K.out hb);clear hb;have A4:=ι hnew;clear hnew;refine listW_ask (some 66) rfl rfl _ _ (exec_fn 15 _ _ _ rfl rfl rfl (Bncl2 _ _)) ?_;refine (Same_any (w0:=w16) (b:=true) H2.out.i A4.out (ι (decide_eq_true rfl)) (Below.refl _ _)).mono ?_
 rintro e1 w17 ⟨rfl,hb⟩;refine ⟨_,rfl,?_⟩;go_frame;replace H1:=ι (H1.out.below hb);replace H2:=ι (H2.out.below hb);replace H3:=ι (H3.out.below hb);replace H4:=ι (H4.out.below hb);replace A1:=ι (A1.out.below hb);replace A2:=ι (A2.out.below hb);replace A3:=ι (A3.out.below hb);replace A4:=ι (A4.out.below hb);replace K:=ι (Rg.acc K.out hb);clear hb;refine Rg.lr 67 (Rg.pT (.bool true)) ?_;go_frame;refine Rg.lm 68 (.bool true) ?_;go_frame;refine Rg.lW 69 (Rg.xm (.int .i64 0) _ rfl rfl) ?_;go_frame;refine Rg.lW 70 (exec_eqI _ _ rfl rfl rfl rfl) ?_;go_frame;refine Rg.lr 71 (Rg.pT (.bool true)) ?_;go_frame;refine Rg.lm 72 (.bool true) ?_;go_frame;refine Rg.lW 73 (Rg.xm (.slice ra3 3 rc3) _ rfl rfl) ?_;go_frame;have hnew:=ints_new w17 3 [1,2,2] (by decide);refine Rg.lW 74 (exec_flat _ _ 3 _ rfl [1,2,2] Tryz.underlying25 szInt zInt rfl (by decide) (by decide) rfl) ?_;go_frame
 have hb:=(Below.refl w17.heap.size w17).alloc (Nat.le_refl _) (.cells (([1,2,2]:List Int).map (Value.int .i64)).toArray 3);generalize w17.alloc (.cells (([1,2,2]:List Int).map (Value.int .i64)).toArray 3)=w18 at *;replace H1:=ι (H1.out.below hb);replace H2:=ι (H2.out.below hb);replace H3:=ι (H3.out.below hb);replace H4:=ι (H4.out.below hb);replace A1:=ι (A1.out.below hb);replace A2:=ι (A2.out.below hb);replace A3:=ι (A3.out.below hb);replace A4:=ι (A4.out.below hb);replace K:=ι (Rg.acc K.out hb);clear hb;have A5:=ι hnew;clear hnew;refine listW_ask (some 75) rfl rfl _ _ (exec_fn 15 _ _ _ rfl rfl rfl (Bncl2 _ _)) ?_;refine (Same_any (w0:=w18) (b:=true) H3.out.i A5.out (ι (decide_eq_true rfl)) (Below.refl _ _)).mono ?_;rintro e1 w19 ⟨rfl,hb⟩;refine ⟨_,rfl,?_⟩;go_frame;replace H1:=ι (H1.out.below hb);replace H2:=ι (H2.out.below hb);replace H3:=ι (H3.out.below hb)
 replace H4:=ι (H4.out.below hb);replace A1:=ι (A1.out.below hb);replace A2:=ι (A2.out.below hb);replace A3:=ι (A3.out.below hb);replace A4:=ι (A4.out.below hb);replace A5:=ι (A5.out.below hb);replace K:=ι (Rg.acc K.out hb);clear hb;refine Rg.lr 76 (Rg.pT (.bool true)) ?_;go_frame;refine Rg.lm 77 (.bool true) ?_;go_frame;refine Rg.lW 78 (Rg.xm (.int .i64 0) _ rfl rfl) ?_;go_frame;refine Rg.lW 79 (exec_eqI _ _ rfl rfl rfl rfl) ?_;go_frame;refine Rg.lr 80 (Rg.pT (.bool true)) ?_;go_frame;refine Rg.lm 81 (.bool true) ?_;go_frame;refine Rg.lW 82 (Rg.xm (.slice ra4 2 rc4) _ rfl rfl) ?_;go_frame;have hnew:=ints_new w19 3 [(-1),(-1)] (by decide);refine Rg.lW 83 (exec_flat _ _ 2 _ rfl [(-1),(-1)] Tryz.underlying26 szInt zInt rfl (by decide) (by decide) rfl) ?_;go_frame;have hb:=(Below.refl w19.heap.size w19).alloc (Nat.le_refl _) (.cells (([(-1),(-1)]:List Int).map (Value.int .i64)).toArray 3)
 generalize w19.alloc (.cells (([(-1),(-1)]:List Int).map (Value.int .i64)).toArray 3)=w20 at *;replace H1:=ι (H1.out.below hb);replace H2:=ι (H2.out.below hb);replace H3:=ι (H3.out.below hb);replace H4:=ι (H4.out.below hb);replace A1:=ι (A1.out.below hb);replace A2:=ι (A2.out.below hb);replace A3:=ι (A3.out.below hb);replace A4:=ι (A4.out.below hb);replace A5:=ι (A5.out.below hb);replace K:=ι (Rg.acc K.out hb);clear hb;have A6:=ι hnew;clear hnew;refine listW_ask (some 84) rfl rfl _ _ (exec_fn 15 _ _ _ rfl rfl rfl (Bncl2 _ _)) ?_;refine (Same_any (w0:=w20) (b:=true) H4.out.i A6.out (ι (decide_eq_true rfl)) (Below.refl _ _)).mono ?_;rintro e1 w21 ⟨rfl,hb⟩;refine ⟨_,rfl,?_⟩;go_frame;replace H1:=ι (H1.out.below hb);replace H2:=ι (H2.out.below hb);replace H3:=ι (H3.out.below hb);replace H4:=ι (H4.out.below hb);replace A1:=ι (A1.out.below hb);replace A2:=ι (A2.out.below hb)
 replace A3:=ι (A3.out.below hb);replace A4:=ι (A4.out.below hb);replace A5:=ι (A5.out.below hb);replace A6:=ι (A6.out.below hb);replace K:=ι (Rg.acc K.out hb);clear hb;refine Rg.lr 85 (Rg.pT (.bool true)) ?_;go_frame;refine Rg.la 9 (.bool true) ?_;go_frame;clear A1 A2 A3 A4 A5 A6 H1 H2 H3 H4;go_upto_region 6 with (fail);refine Rg.wl ?_;refine Rg.lk 87 (exec_fn0 25 _ rfl (Bncl0 _ _)) ?_;refine (three10_any w21).mono ?_;rintro e1 w22 ⟨ga,gn,gc,rfl,hgr,hb⟩;have hgr2:=hgr.rows;refine ⟨_,rfl,?_⟩;go_frame;replace K:=ι (Rg.acc K.out hb);clear hb;have GR:=ι (RsO.mk hgr2);refine Rg.lr 88 (exec_buildSm _ _ _ rfl rfl rfl rfl) ?_;go_frame;refine Rg.lr 89 (exec_buildSm _ _ _ rfl rfl rfl rfl) ?_;go_frame;have hst:=sta_two w22 1 0 1 1 2 0 51;refine Rg.lr 90 (exec_buildSlice2 (xv:=.agg #[.int .i64 1,.int .i64 0,.int .i64 1]) (yv:=.agg #[.int .i64 1,.int .i64 2,.int .i64 0]) _ _ _ _ rfl rfl rfl (run_build2St w22 1 0 1 1 2 0)) ?_;go_frame
 have hb:=(Below.refl w22.heap.size w22).alloc (Nat.le_refl _) (.cells #[.int .i64 1,.int .i64 0,.int .i64 1,.int .i64 1,.int .i64 2,.int .i64 0] 51);generalize w22.alloc (.cells #[.int .i64 1,.int .i64 0,.int .i64 1,.int .i64 1,.int .i64 2,.int .i64 0] 51)=w23 at *;replace GR:=ι (GR.out.below hb);replace K:=ι (Rg.acc K.out hb);clear hb;have ST:=ι hst;clear hst;clear hgr hgr2;refine Rg.lk 91 (exec_fn 16 _ _ _ rfl rfl rfl (Dmcl6 _ _)) ?_;refine (fcRun_any _ _ 3 [[1,0,2],[0,2,1]] [(1,0,1),(1,2,0)] w23 GR.out.r ST.out (by decide)).mono ?_;rintro e1 w24 ⟨rv,rl,rc,rfl,hev,hri,hb⟩;obtain ⟨rfl,rfl⟩:=rn_x hev;obtain ⟨ra1,rc1,hsh,-⟩:=hri.shape;subst hsh;clear hev;refine ⟨_,rfl,?_⟩;go_frame;replace GR:=ι (GR.out.below hb);replace ST:=ι (ST.out.below hb);replace K:=ι (Rg.acc K.out hb);clear hb;have H1:=ι (NpI.mk hri);refine Rg.lm 86 (.tuple #[.slice ra1 3 rc1,.int .i64 0]) ?_;go_frame
 refine Rg.lr 92 (Rg.ex (.slice ra1 3 rc1)) ?_;go_frame;refine Rg.lr 93 (Rg.ex (.int .i64 0)) ?_;go_frame;refine Rg.la 10 (.slice ra1 3 rc1) ?_;go_frame;refine Rg.la 11 (.int .i64 0) ?_;go_frame;clear hri;clear GR ST;go_upto_region 7 with (fail);refine Rg.wl ?_;refine Rg.lk 95 (exec_fn0 25 _ rfl (Bncl0 _ _)) ?_;refine (three10_any w24).mono ?_;rintro e1 w25 ⟨ga,gn,gc,rfl,hgr,hb⟩;have hgr2:=hgr.rows;refine ⟨_,rfl,?_⟩;go_frame;replace H1:=ι (H1.out.below hb);replace K:=ι (Rg.acc K.out hb);clear hb;have GR:=ι (RsO.mk hgr2);clear hgr hgr2;refine Rg.lk 96 (exec_fn 16 _ _ _ rfl rfl rfl (Dmcl6 _ _)) ?_;refine (fcRun_any _ _ 3 [[1,0,2],[0,2,1]] [] w25 GR.out.r (StA.nil _) (by decide)).mono ?_;rintro e1 w26 ⟨rv,rl,rc,rfl,hev,hri,hb⟩;obtain ⟨rfl,rfl⟩:=rn_y hev;obtain ⟨ra2,rc2,hsh,-⟩:=hri.shape;subst hsh;clear hev;refine ⟨_,rfl,?_⟩;go_frame;replace H1:=ι (H1.out.below hb)
 replace GR:=ι (GR.out.below hb);replace K:=ι (Rg.acc K.out hb);clear hb;have H2:=ι (NpI.mk hri);refine Rg.lm 94 (.tuple #[.slice ra2 3 rc2,.int .i64 0]) ?_;go_frame;refine Rg.lr 97 (Rg.ex (.slice ra2 3 rc2)) ?_;go_frame;refine Rg.lr 98 (Rg.ex (.int .i64 0)) ?_;go_frame;refine Rg.la 12 (.slice ra2 3 rc2) ?_;go_frame;refine Rg.la 13 (.int .i64 0) ?_;go_frame;clear hri;clear GR;go_upto_region 8 with (fail);refine Rg.wl ?_;refine Rg.lk 100 (exec_fn0 25 _ rfl (Bncl0 _ _)) ?_;refine (three10_any w26).mono ?_;rintro e1 w27 ⟨ga,gn,gc,rfl,hgr,hb⟩;have hgr2:=hgr.rows;refine ⟨_,rfl,?_⟩;go_frame;replace H1:=ι (H1.out.below hb);replace H2:=ι (H2.out.below hb);replace K:=ι (Rg.acc K.out hb);clear hb;have GR:=ι (RsO.mk hgr2);refine Rg.lr 101 (exec_buildSm _ _ _ rfl rfl rfl rfl) ?_;go_frame;have hst:=sta_one w27 1 0 2 51;refine Rg.lr 102 (Rg.exec_buildSlice _ _ _ rfl (.agg #[.int .i64 1,.int .i64 0,.int .i64 2]) rfl (run_build1St w27 1 0 2)) ?_;go_frame
 have hb:=(Below.refl w27.heap.size w27).alloc (Nat.le_refl _) (.cells #[.int .i64 1,.int .i64 0,.int .i64 2] 51);generalize w27.alloc (.cells #[.int .i64 1,.int .i64 0,.int .i64 2] 51)=w28 at *;replace H1:=ι (H1.out.below hb);replace H2:=ι (H2.out.below hb);replace GR:=ι (GR.out.below hb);replace K:=ι (Rg.acc K.out hb);clear hb;have ST:=ι hst;clear hst;clear hgr hgr2;refine Rg.lk 103 (exec_fn 16 _ _ _ rfl rfl rfl (Dmcl6 _ _)) ?_;refine (fcRun_any _ _ 3 [[1,0,2],[0,2,1]] [(1,0,2)] w28 GR.out.r ST.out (by decide)).mono ?_;rintro e1 w29 ⟨rv,rl,rc,rfl,hev,hri,hb⟩;obtain ⟨rfl,rfl⟩:=rn_z hev;obtain ⟨ra3,rc3,hsh,-⟩:=hri.shape;subst hsh;clear hev;refine ⟨_,rfl,?_⟩;go_frame;replace H1:=ι (H1.out.below hb);replace H2:=ι (H2.out.below hb);replace GR:=ι (GR.out.below hb);replace ST:=ι (ST.out.below hb);replace K:=ι (Rg.acc K.out hb);clear hb;have H3:=ι (NpI.mk hri)
 refine Rg.lm 99 (.tuple #[.slice ra3 0 rc3,.int .i64 2]) ?_;go_frame;refine Rg.lr 104 (Rg.ex (.slice ra3 0 rc3)) ?_;go_frame;refine Rg.lr 105 (Rg.ex (.int .i64 2)) ?_;go_frame;refine Rg.la 14 (.slice ra3 0 rc3) ?_;go_frame;refine Rg.la 15 (.int .i64 2) ?_;go_frame;clear hri;clear GR ST H3;go_upto_region 9 with (fail);refine Rg.wl ?_;refine Rg.lk 107 (exec_fn0 25 _ rfl (Bncl0 _ _)) ?_;refine (three10_any w29).mono ?_;rintro e1 w30 ⟨ga,gn,gc,rfl,hgr,hb⟩;have hgr2:=hgr.rows;refine ⟨_,rfl,?_⟩;go_frame;replace H1:=ι (H1.out.below hb);replace H2:=ι (H2.out.below hb);replace K:=ι (Rg.acc K.out hb);clear hb;have GR:=ι (RsO.mk hgr2);refine Rg.lr 108 (exec_buildS0 _ rfl rfl) ?_;go_frame;have hst:=sta_one w30 3 0 0 51;refine Rg.lr 109 (Rg.exec_buildSlice _ _ _ rfl (.agg #[.int .i64 3,.int .i64 0,.int .i64 0]) rfl (run_build1St w30 3 0 0)) ?_;go_frame;have hb:=(Below.refl w30.heap.size w30).alloc (Nat.le_refl _) (.cells #[.int .i64 3,.int .i64 0,.int .i64 0] 51)
 generalize w30.alloc (.cells #[.int .i64 3,.int .i64 0,.int .i64 0] 51)=w31 at *;replace H1:=ι (H1.out.below hb);replace H2:=ι (H2.out.below hb);replace GR:=ι (GR.out.below hb);replace K:=ι (Rg.acc K.out hb);clear hb;have ST:=ι hst;clear hst;clear hgr hgr2;refine Rg.lk 110 (exec_fn 16 _ _ _ rfl rfl rfl (Dmcl6 _ _)) ?_;refine (fcRun_any _ _ 3 [[1,0,2],[0,2,1]] [(3,0,0)] w31 GR.out.r ST.out (by decide)).mono ?_;rintro e1 w32 ⟨rv,rl,rc,rfl,hev,hri,hb⟩;obtain ⟨rfl,rfl⟩:=rn_u hev;obtain ⟨ra4,rc4,hsh,-⟩:=hri.shape;subst hsh;clear hev;refine ⟨_,rfl,?_⟩;go_frame;replace H1:=ι (H1.out.below hb);replace H2:=ι (H2.out.below hb);replace GR:=ι (GR.out.below hb);replace ST:=ι (ST.out.below hb);replace K:=ι (Rg.acc K.out hb);clear hb;have H4:=ι (NpI.mk hri);refine Rg.lm 106 (.tuple #[.slice ra4 0 rc4,.int .i64 3]) ?_;go_frame;refine Rg.lr 111 (Rg.ex (.slice ra4 0 rc4)) ?_;go_frame
 refine Rg.lr 112 (Rg.ex (.int .i64 3)) ?_;go_frame;refine Rg.la 16 (.slice ra4 0 rc4) ?_;go_frame;refine Rg.la 17 (.int .i64 3) ?_;go_frame;clear hri;clear GR ST H4;go_upto_region 10 with (fail);refine Rg.wl ?_;refine Rg.lm 113 (.int .i64 0) ?_;go_frame;refine Rg.lr 114 (exec_eqI _ _ rfl rfl rfl rfl) ?_;go_frame;refine Rg.lm 115 (.bool true) ?_;go_frame;refine Rg.lW 116 (Rg.xm (.slice ra1 3 rc1) _ rfl rfl) ?_;go_frame;have hnew:=ints_new w32 3 [2,1,0] (by decide);refine Rg.lW 117 (exec_flat _ _ 3 _ rfl [2,1,0] Tryz.underlying30 szInt zInt rfl (by decide) (by decide) rfl) ?_;go_frame;have hb:=(Below.refl w32.heap.size w32).alloc (Nat.le_refl _) (.cells (([2,1,0]:List Int).map (Value.int .i64)).toArray 3);generalize w32.alloc (.cells (([2,1,0]:List Int).map (Value.int .i64)).toArray 3)=w33 at *;replace H1:=ι (H1.out.below hb);replace H2:=ι (H2.out.below hb);replace K:=ι (Rg.acc K.out hb)
 clear hb;have A1:=ι hnew;clear hnew;refine listW_ask (some 118) rfl rfl _ _ (exec_fn 15 _ _ _ rfl rfl rfl (Bncl2 _ _)) ?_;refine (Same_any (w0:=w33) (b:=true) H1.out.i A1.out (ι (decide_eq_true rfl)) (Below.refl _ _)).mono ?_;rintro e1 w34 ⟨rfl,hb⟩;refine ⟨_,rfl,?_⟩;go_frame;replace H1:=ι (H1.out.below hb);replace H2:=ι (H2.out.below hb);replace A1:=ι (A1.out.below hb);replace K:=ι (Rg.acc K.out hb);clear hb;refine Rg.lr 119 (Rg.pT (.bool true)) ?_;go_frame;refine Rg.lm 120 (.bool true) ?_;go_frame;refine Rg.lW 121 (Rg.xm (.int .i64 0) _ rfl rfl) ?_;go_frame;refine Rg.lW 122 (exec_eqI _ _ rfl rfl rfl rfl) ?_;go_frame;refine Rg.lr 123 (Rg.pT (.bool true)) ?_;go_frame;refine Rg.lm 124 (.bool true) ?_;go_frame;refine Rg.lW 125 (Rg.xm (.slice ra2 3 rc2) _ rfl rfl) ?_;go_frame;have hnew:=ints_new w34 3 [0,1,2] (by decide);refine Rg.lW 126 (exec_flat _ _ 3 _ rfl [0,1,2] Tryz.underlying30 szInt zInt rfl (by decide) (by decide) rfl) ?_;go_frame
 have hb:=(Below.refl w34.heap.size w34).alloc (Nat.le_refl _) (.cells (([0,1,2]:List Int).map (Value.int .i64)).toArray 3);generalize w34.alloc (.cells (([0,1,2]:List Int).map (Value.int .i64)).toArray 3)=w35 at *;replace H1:=ι (H1.out.below hb);replace H2:=ι (H2.out.below hb);replace A1:=ι (A1.out.below hb);replace K:=ι (Rg.acc K.out hb);clear hb;have A2:=ι hnew;clear hnew;refine listW_ask (some 127) rfl rfl _ _ (exec_fn 15 _ _ _ rfl rfl rfl (Bncl2 _ _)) ?_;refine (Same_any (w0:=w35) (b:=true) H2.out.i A2.out (ι (decide_eq_true rfl)) (Below.refl _ _)).mono ?_;rintro e1 w36 ⟨rfl,hb⟩;refine ⟨_,rfl,?_⟩;go_frame;replace H1:=ι (H1.out.below hb);replace H2:=ι (H2.out.below hb);replace A1:=ι (A1.out.below hb);replace A2:=ι (A2.out.below hb);replace K:=ι (Rg.acc K.out hb);clear hb;refine Rg.lr 128 (Rg.pT (.bool true)) ?_;go_frame;refine Rg.lm 129 (.bool true) ?_;go_frame
 refine Rg.lW 130 (Rg.xm (.int .i64 2) _ rfl rfl) ?_;go_frame;refine Rg.lW 131 (exec_eqI _ _ rfl rfl rfl rfl) ?_;go_frame;refine Rg.lr 132 (Rg.pT (.bool true)) ?_;go_frame;refine Rg.lm 133 (.bool true) ?_;go_frame;refine Rg.lW 134 (Rg.xm (.int .i64 3) _ rfl rfl) ?_;go_frame;refine Rg.lW 135 (exec_eqI _ _ rfl rfl rfl rfl) ?_;go_frame;refine Rg.lr 136 (Rg.pT (.bool true)) ?_;go_frame;refine Rg.la 18 (.bool true) ?_;go_frame;clear A1 A2 H1 H2;go_upto_region 11 with (fail);refine Rg.wl ?_;refine Rg.lk 138 (exec_fn0 25 _ rfl (Bncl0 _ _)) ?_;refine (three10_any w36).mono ?_;rintro e1 w37 ⟨ga,gn,gc,rfl,hgr,hb⟩;have hgr2:=hgr.rows;refine ⟨_,rfl,?_⟩;go_frame;replace K:=ι (Rg.acc K.out hb);clear hb;have GR:=ι (RsO.mk hgr2);have hnew:=ints_new w37 3 [3] (by decide);refine Rg.lr 139 (exec_flat _ _ 1 _ rfl [3] Tryz.underlying26 szInt zInt rfl (by decide) (by decide) rfl) ?_;go_frame;have hb:=(Below.refl w37.heap.size w37).alloc (Nat.le_refl _) (.cells (([3]:List Int).map (Value.int .i64)).toArray 3)
 generalize w37.alloc (.cells (([3]:List Int).map (Value.int .i64)).toArray 3)=w38 at *;replace GR:=ι (GR.out.below hb);replace K:=ι (Rg.acc K.out hb);clear hb;have A1:=ι hnew;clear hnew;clear hgr hgr2;refine Rg.lk 140 (exec_fn 13 _ _ _ rfl rfl rfl (Bncl1 _ _)) ?_;refine (fcEval_any _ _ 3 [[1,0,2],[0,2,1]] [3] w38 GR.out.r A1.out).mono ?_;rintro e1 w39 ⟨rv,rl,rc,rfl,hev,hri,hb⟩;obtain ⟨rfl,rfl⟩:=ev_n hev;obtain ⟨ra1,rc1,hsh,-⟩:=hri.shape;subst hsh;clear hev;refine ⟨_,rfl,?_⟩;go_frame;replace GR:=ι (GR.out.below hb);replace A1:=ι (A1.out.below hb);replace K:=ι (Rg.acc K.out hb);clear hb;have H1:=ι (NpI.mk hri);refine Rg.lm 137 (.tuple #[.slice ra1 0 rc1,.int .i64 2]) ?_;go_frame;refine Rg.lr 141 (Rg.ex (.slice ra1 0 rc1)) ?_;go_frame;refine Rg.lr 142 (Rg.ex (.int .i64 2)) ?_;go_frame;refine Rg.la 19 (.slice ra1 0 rc1) ?_;go_frame;refine Rg.la 20 (.int .i64 2) ?_;go_frame
 clear hri;clear GR A1 H1;go_upto_region 12 with (fail);refine Rg.wl ?_;refine Rg.lk 144 (exec_fn0 26 _ rfl (Dmcl3 _ _)) ?_;refine (five10_any w39).mono ?_;rintro e1 w40 ⟨ga,gn,gc,rfl,hgr,hb⟩;have hgr2:=hgr.rows;refine ⟨_,rfl,?_⟩;go_frame;replace K:=ι (Rg.acc K.out hb);clear hb;have GR:=ι (RsO.mk hgr2);have hnew:=ints_new w40 3 [1,0,2,3,4] (by decide);refine Rg.lr 145 (exec_flat _ _ 5 _ rfl [1,0,2,3,4] Tryz.underlying30 szInt zInt rfl (by decide) (by decide) rfl) ?_;go_frame;have hb:=(Below.refl w40.heap.size w40).alloc (Nat.le_refl _) (.cells (([1,0,2,3,4]:List Int).map (Value.int .i64)).toArray 3);generalize w40.alloc (.cells (([1,0,2,3,4]:List Int).map (Value.int .i64)).toArray 3)=w41 at *;replace GR:=ι (GR.out.below hb);replace K:=ι (Rg.acc K.out hb);clear hb;have P1:=ι hnew;clear hnew;clear hgr hgr2;refine Rg.lk 146 (exec_fn 22 _ _ _ rfl rfl rfl (Dmcl1 _ _)) ?_
 refine (fcLeast_any _ _ 5 [[1,2,3,4,0]] [1,0,2,3,4] w41 GR.out.r P1.out (by decide)).mono ?_;rintro e1 w42 ⟨rv,rl,rc,rfl,hev,hri,hb⟩;obtain ⟨rfl,rfl⟩:=lt_c hev;obtain ⟨ra2,rc2,hsh,-⟩:=hri.shape;subst hsh;clear hev;refine ⟨_,rfl,?_⟩;go_frame;replace GR:=ι (GR.out.below hb);replace P1:=ι (P1.out.below hb);replace K:=ι (Rg.acc K.out hb);clear hb;have H2:=ι (NpI.mk hri);refine Rg.lm 143 (.tuple #[.slice ra2 0 rc2,.int .i64 18]) ?_;go_frame;refine Rg.lr 147 (Rg.ex (.slice ra2 0 rc2)) ?_;go_frame;refine Rg.lr 148 (Rg.ex (.int .i64 18)) ?_;go_frame;refine Rg.la 21 (.slice ra2 0 rc2) ?_;go_frame;refine Rg.la 22 (.int .i64 18) ?_;go_frame;clear hri;clear GR P1 H2;go_upto_region 13 with (fail);refine Rg.wl ?_;refine Rg.lk 150 (exec_fn0 26 _ rfl (Dmcl3 _ _)) ?_;refine (five10_any w42).mono ?_;rintro e1 w43 ⟨ga,gn,gc,rfl,hgr,hb⟩;have hgr2:=hgr.rows;refine ⟨_,rfl,?_⟩
 go_frame;replace K:=ι (Rg.acc K.out hb);clear hb;have GR:=ι (RsO.mk hgr2);have hnew:=ints_new w43 3 [1,0,2,3,4] (by decide);refine Rg.lr 151 (exec_flat _ _ 5 _ rfl [1,0,2,3,4] Tryz.underlying30 szInt zInt rfl (by decide) (by decide) rfl) ?_;go_frame;have hb:=(Below.refl w43.heap.size w43).alloc (Nat.le_refl _) (.cells (([1,0,2,3,4]:List Int).map (Value.int .i64)).toArray 3);generalize w43.alloc (.cells (([1,0,2,3,4]:List Int).map (Value.int .i64)).toArray 3)=w44 at *;replace GR:=ι (GR.out.below hb);replace K:=ι (Rg.acc K.out hb);clear hb;have P1:=ι hnew;clear hnew;clear hgr hgr2;refine Rg.lk 152 (exec_fn 28 _ _ _ rfl rfl rfl (Dmcl8 _ _)) ?_;refine (fcProgram_any _ _ 5 [[1,2,3,4,0]] [1,0,2,3,4] w44 GR.out.r P1.out).mono ?_;rintro e1 w45 ⟨rv,rS,rc,rfl,hev,hst9,hb⟩;obtain ⟨rfl,rfl⟩:=pg_c hev;obtain ⟨ra9,rc9,hsh,-⟩:=hst9.st;subst hsh
 clear hev;refine ⟨_,rfl,?_⟩;go_frame;replace GR:=ι (GR.out.below hb);replace P1:=ι (P1.out.below hb);replace K:=ι (Rg.acc K.out hb);clear hb;refine Rg.lm 149 (.tuple #[.slice ra9 0 rc9,.int .i64 18]) ?_;go_frame;refine Rg.lr 153 (Rg.ex (.slice ra9 0 rc9)) ?_;go_frame;refine Rg.lr 154 (Rg.ex (.int .i64 18)) ?_;go_frame;refine Rg.la 23 (.slice ra9 0 rc9) ?_;go_frame;refine Rg.la 24 (.int .i64 18) ?_;go_frame;clear hst9;clear GR P1;go_upto_region 14 with (fail);refine Rg.wl ?_;refine Rg.lk 155 (exec_fn0 11 _ rfl (Dmcl9 _ _)) ?_;refine (awake10_any w45).mono ?_;rintro e1 w46 ⟨rfl,hb⟩;refine ⟨_,rfl,?_⟩;go_frame;replace K:=ι (Rg.acc K.out hb);clear hb;refine Rg.lm 156 (.bool true) ?_;go_frame;refine Rg.lW 157 (Rg.xm (.bool true) _ rfl rfl) ?_;go_frame;refine Rg.lr 158 (Rg.pT (.bool true)) ?_;go_frame;refine Rg.lm 159 (.bool true) ?_;go_frame;refine Rg.lW 160 (Rg.xm (.bool true) _ rfl rfl) ?_;go_frame
 refine Rg.lr 161 (Rg.pT (.bool true)) ?_;go_frame;refine Rg.lm 162 (.bool true) ?_;go_frame;refine Rg.lW 163 (Rg.xm (.int .i64 2) _ rfl rfl) ?_;go_frame;refine Rg.lW 164 (exec_eqI _ _ rfl rfl rfl rfl) ?_;go_frame;refine Rg.lr 165 (Rg.pT (.bool true)) ?_;go_frame;refine Rg.lm 166 (.bool true) ?_;go_frame;refine Rg.lW 167 (Rg.xm (.int .i64 18) _ rfl rfl) ?_;go_frame;refine Rg.lW 168 (exec_eqI _ _ rfl rfl rfl rfl) ?_;go_frame;refine Rg.lr 169 (Rg.pT (.bool true)) ?_;go_frame;refine Rg.lm 170 (.bool true) ?_;go_frame;refine Rg.lW 171 (Rg.xm (.int .i64 18) _ rfl rfl) ?_;go_frame;refine Rg.lW 172 (exec_eqI _ _ rfl rfl rfl rfl) ?_;go_frame;refine Rg.lr 173 (Rg.pT (.bool true)) ?_;go_frame;refine Rg.la 0 (.bool true) ?_;go_frame;go_wp2;go_ret;exact ⟨rfl,K.out⟩
end Go.Proofs.YtdnmmibchbceeaaGreat

namespace Go.Proofs.YtdnmmibchbceeaaGreat
open Go.RowKit
open Go.Proofs
open Go.Proofs.Ob
open Go.Proofs.Cm (Gd)
attribute [local irreducible] Go.Calls Go.wpList
structure IB (w:World) (v:Value) (l:List Int):Prop where
 i:Rg.IntsB maxLen w v l
theorem IB.below {w w':World} {v:Value} {l:List Int} (h:IB w v l) (hb:Below w.heap.size w w'):IB w' v l:=⟨Rg.IntsB.below h.i hb⟩
theorem ChAns.zero {ll:List (List Int)} {cv:Value} {c:Int} (h:ChAns w d ll cv c) (hc:c≠0):cv=zeroC:=by
 rcases h with ⟨_,h⟩ | ⟨h,_⟩
 ·exact h
 ·exact absurd h hc
theorem gchk_good (h1:1≤D) (h2:D≤64) (hl:gs.length≤16) (h:∀ s∈gs,Gd D s):Ma.gchk ((D:Nat):Int) (gs.map Ma.ofN)=0:=by
 unfold Ma.gchk;rw [if_pos (by omega),if_pos (by rw [List.length_map]; exact hl)];exact gck_good h1 h2 h
end Go.Proofs.YtdnmmibchbceeaaGreat

namespace Go.Proofs.YtdnmmibchbceeaaGreat
open Go.RowKit
open Go.Proofs
open Go.Proofs.Ob
open Go.Proofs.Cm (Gd Gr IsChain)
attribute [local irreducible] Go.Calls Go.wpList
def ElsV (d:Nat) (gs:List (List Nat)) (most:Nat) (w:World) (v:Value):Prop:=(∃ A,Rg.Rows w v (A.map Ma.ofN)∧AllE d gs A∧A.length≤most)∨(v=.slice none 0 0∧OverE d gs most)
theorem ElsV.below {d:Nat} {gs:List (List Nat)} {most:Nat} {w w':World} {v:Value} (h:ElsV d gs most w v) (hb:Below w.heap.size w w'):ElsV d gs most w' v:=by
 rcases h with ⟨A,h1,h2⟩ | h
 ·exact .inl ⟨A,h1.below hb,h2⟩
 ·exact .inr h
theorem Elements_f (d:Nat) (gv:Value) (gs:List (List Nat)) (most:Nat) (w:World) (hd1:1≤d) (hd:d≤64) (hgr:Rg.Rows w gv (gs.map Ma.ofN)) (hG:∀ s∈gs,Gd d s) (hgl:gs.length≤1000) (hm:1≤most) (hm2:most≤100000) :
  Calls Tryz.prog 30 #[.int .i64 d,gv,.int .i64 most] w fun e w'=>∃ v,e=.returned v∧ElsV d gs most w' v∧Below w.heap.size w w' :=
 (Elements_any d gv gs most w hd1 hd hgr hG hgl hm hm2).mono fun _ _ ⟨v,h1,h2,h3⟩=>⟨v,h1,h3,h2⟩
structure RwA (w:World) (v:Value) (A:List (List Nat)):Prop where
 r:Rg.Rows w v (A.map Ma.ofN)
theorem RwA.below {w w':World} {v:Value} {A:List (List Nat)} (h:RwA w v A) (hb:Below w.heap.size w w'):RwA w' v A:=⟨h.r.below hb⟩
theorem AllE.pos {d:Nat} (h:AllE d gs A):0<A.length:=List.length_pos_of_mem ((h.2 _).2 .one)
end Go.Proofs.YtdnmmibchbceeaaGreat

namespace Go.Proofs.YtdnmmibchbceeaaGreat
open Go.RowKit
open Go.Proofs
open Go.Proofs.Ob
open Go.Proofs.Cm (Gd Gr IsChain ap)
attribute [local irreducible] Go.Calls Go.wpList
theorem Dncl2 (args:Array Value) (w:World):(callFunc 50 args).run Tryz.prog w=.ok (.enter 50 args) w:=by kernel_rfl
theorem fine_yes (hg:∀ s∈gs,Gd N s) (hn1:1≤N) (hn2:N≤64) (hgl:gs.length≤16) (gv wv:Value) (u:List Int) (w:World) (h:Rg.Rows w gv (gs.map Ma.ofN)) (hu:Rg.Ints w wv u) (hul:u.length≤100000) (ho:okW gs.length u) :
  Calls Tryz.prog 31 #[.agg #[.int .i64 ((N:Nat):Int),gv],wv] w fun e w'=>e=.returned (.bool true)∧Below w.heap.size w w':=by
 obtain ⟨wa,wc,rfl,-,-,hum,-⟩:=hu.shape;have HU0:=ι (NpI.mk hu);have HGD:=ι hg;have HO:=ι ho;have HGL:=ι hgl;clear hu hg ho;obtain ⟨ga,gc,rfl,hga,hba⟩:=GI.enter (((N:Nat):Int)) h;have K:=ι hba;have G0:=ι hga;clear h hga hba;replace HU0:=ι (HU0.out.below ((Below.refl _ _).alloc (Nat.le_refl _) (.cells #[.int .i64 ((N:Nat):Int),.slice ga (gs.map Ma.ofN).length gc] 24)))
 go_enter Tryz.func31,Tryz.ntmps31
 go_upto_region 0 with (fail);refine Rg.wl ?_;refine Rg.lr 2 (Rg.exec_box _ _ rfl rfl) ?_;go_frame;refine Rg.la 4 (.bool false) ?_;go_frame;obtain ⟨gb,hgb⟩:∃ gb,w.heap.size=gb:=⟨_,rfl⟩;rw [hgb] at G0 ⊢;generalize w.alloc (.cells #[.int .i64 ((N:Nat):Int),.slice ga (gs.map Ma.ofN).length gc] 24)=w0 at *;clear hgb;go_upto_region 1 with (fail);refine Rg.wl ?_;refine Rg.la 5 (.int .i64 ((0:Nat):Int)) ?_;go_frame;go_wp2
 go_loopw [5] (fun iv wr=>∃ i:Nat,iv=.int .i64 ((i:Nat):Int)∧i≤u.length∧Hid (Below w0.heap.size w0 wr)) (fun iv _=>u.length - (intOf iv).toNat)
 case atStart=>exact ⟨0,rfl,Nat.zero_le _,ι (Below.refl _ _)⟩
 case round =>
  obtain ⟨i,rfl,hi,KR⟩:=hrel;replace G0:=ι (G0.out.below KR.out);replace HU0:=ι (HU0.out.below KR.out);have KL:=ι (Rg.acc K.out KR.out)
  by_cases hil:i<u.length
  case neg =>
   skip
   go_upto_region 2 with (fail);refine Rg.wl ?_;refine Rg.lm 6 (.int .i64 ((i:Nat):Int)) ?_;go_frame;refine Rg.lm 7 (.slice wa u.length wc) ?_;go_frame;refine Rg.lr 8 (Rg.ln Tryz.underlying26) ?_;go_frame;refine Rg.lr 9 (Rg.bn (.bool false) .lss (h:=b_lss _ Rg.dF)) ?_;go_frame;go_upto_region 6 with (fail);refine Rg.wl ?_;refine Rg.la 4 (.bool true) ?_;go_frame;go_wp2;go_ret;exact ⟨rfl,KL.out⟩
  case pos =>
   obtain ⟨b,o,e1,hb0,hc0⟩:=ints_get HU0.out.i hil;subst e1;obtain ⟨x,hx⟩:∃ x,Hid (u[i]'hil=x):=⟨_,ι rfl⟩;rw [hx.out] at hc0;have CX:=ι (CL.mk hc0 hb0);have HIL:=ι hil;have HXO:=ι (show x≠0∧x≤(gs.length:Int)∧-(gs.length:Int)≤x from hx.out▸HO.out _ (List.getElem_mem hil));clear hb0 hc0
   have hq16:(gs.map Ma.ofN).length≤16:=by rw [List.length_map]; exact HGL.out
   have hx0:x≠0:=HXO.out.1
   have hx1:x≤((gs.map Ma.ofN).length:Int):=by rw [List.length_map]; exact HXO.out.2.1
   have hx2:-((gs.map Ma.ofN).length:Int)≤x:=by rw [List.length_map]; exact HXO.out.2.2
   clear KL;go_upto_region 2 with (fail);refine Rg.wl ?_;refine Rg.lm 6 (.int .i64 ((i:Nat):Int)) ?_;go_frame;refine Rg.lm 7 (.slice (some ⟨b,o,none⟩) u.length wc) ?_;go_frame;refine Rg.lr 8 (Rg.ln Tryz.underlying26) ?_;go_frame;refine Rg.lr 9 (Rg.bn (.bool true) .lss (h:=b_lss _ Rg.dT)) ?_;go_frame;go_upto_region 4 with (fail);have hV0:Below wr.heap.size wr wr.drew:=(Below.refl _ _).drew;replace G0:=ι (G0.out.below hV0);replace HU0:=ι (HU0.out.below hV0);replace CX:=ι (CX.out.below hV0);replace KR:=ι (Rg.acc KR.out hV0);clear hV0;refine Rg.Any.begin (S:=Rg.Both 25 (fun _=>True) (fun W=>Below wr.drew.heap.size wr.drew W)) mix ?_;generalize wr.drew=w21 at *;have hS:∀ (l:Array Bool) W,Below w21.heap.size w21 W→Rg.Both 25 (fun _=>True) (fun W=>Below w21.heap.size w21 W) l W:=fun l W h=>⟨.inr trivial,h⟩;have hI:Below w21.heap.size w21 w21:=Below.refl _ _
   refine Rg.tm 0 25 (.slice (some ⟨b,o,none⟩) u.length wc) 12 (hS _ _ hI) ?_;go_frame;refine Rg.tm 1 25 (.int .i64 ((i:Nat):Int)) 13 (hS _ _ hI) ?_;go_frame;refine Rg.tg 2 25 (.pointer (some ⟨b,o+i,none⟩)) 14 rfl rfl (Rg.yields_index slWord _ _ rfl rfl b (o) (u.length) wc (i) rfl rfl HIL.out) (hS _ _ hI) ?_;go_frame;refine Rg.tg 3 25 (.int .i64 x) 15 rfl rfl (Rg.yc ⟨b,o+i,none⟩ (fun W hW=>run_loadInt ((Below.cell (p:=⟨b,o+i,none⟩) hW CX.out.lt).trans CX.out.cell))) (hS _ _ hI) ?_;go_frame;refine Rg.tg 4 25 (.bool false) 16 rfl rfl (.inl ⟨rfl,fun w _=>exec_bin (R:=.bool false) .eql _ _ _ rfl rfl rfl (b_eql _ (decide_eq_false hx0))⟩) (hS _ _ hI) ?_;go_frame;refine Rg.tm 5 25 (.bool false) 17 (hS _ _ hI) ?_;go_frame;refine Rg.tm 6 25 (.slice (some ⟨b,o,none⟩) u.length wc) 18 (hS _ _ hI) ?_;go_frame;refine Rg.tm 7 25 (.int .i64 ((i:Nat):Int)) 19 (hS _ _ hI) ?_;go_frame
   refine Rg.tg 8 25 (.pointer (some ⟨b,o+i,none⟩)) 20 rfl rfl (Rg.yields_index slWord _ _ rfl rfl b (o) (u.length) wc (i) rfl rfl HIL.out) (hS _ _ hI) ?_;go_frame;refine Rg.tg 9 25 (.int .i64 x) 21 rfl rfl (Rg.yc ⟨b,o+i,none⟩ (fun W hW=>run_loadInt ((Below.cell (p:=⟨b,o+i,none⟩) hW CX.out.lt).trans CX.out.cell))) (hS _ _ hI) ?_;go_frame;refine Rg.tg 10 25 (.pointer (some ⟨gb,1,none⟩)) 22 rfl rfl (.inl ⟨rfl,fun w _=>exec_fieldG _ rfl rfl⟩) (hS _ _ hI) ?_;go_frame;refine Rg.tg 11 25 (.slice ga (gs.map Ma.ofN).length gc) 23 rfl rfl (Rg.yc ⟨gb,1,none⟩ (fun W hW=>Rg.run_loadSl _ _ Tryz.underlying22 ((Below.cell (p:=⟨gb,1,none⟩) hW G0.out.lt).trans G0.out.c1))) (hS _ _ hI) ?_;go_frame;refine Rg.tg 12 25 (.int .i64 (((gs.map Ma.ofN).length:Nat):Int)) 24 rfl rfl (.inl ⟨rfl,fun w _=>exec_len _ _ _ rfl Tryz.underlying22 _ _ _ rfl⟩) (hS _ _ hI) ?_;go_frame;refine Rg.tg 13 25 (.bool false) 25 rfl rfl (.inl ⟨rfl,fun w _=>exec_bin (R:=.bool false) .gtr _ _ _ rfl rfl rfl (b_gtr _ Rg.dF)⟩) (hS _ _ hI) ?_;go_frame
   refine Rg.tg 14 25 (.bool false) 26 rfl rfl (.inl ⟨rfl,fun w _=>exec_pickF _ _ _ rfl rfl rfl⟩) (hS _ _ hI) ?_;go_frame;refine Rg.tm 15 25 (.bool false) 27 (hS _ _ hI) ?_;go_frame;refine Rg.tm 16 25 (.slice (some ⟨b,o,none⟩) u.length wc) 28 (hS _ _ hI) ?_;go_frame;refine Rg.tm 17 25 (.int .i64 ((i:Nat):Int)) 29 (hS _ _ hI) ?_;go_frame;refine Rg.tg 18 25 (.pointer (some ⟨b,o+i,none⟩)) 30 rfl rfl (Rg.yields_index slWord _ _ rfl rfl b (o) (u.length) wc (i) rfl rfl HIL.out) (hS _ _ hI) ?_;go_frame;refine Rg.tg 19 25 (.int .i64 x) 31 rfl rfl (Rg.yc ⟨b,o+i,none⟩ (fun W hW=>run_loadInt ((Below.cell (p:=⟨b,o+i,none⟩) hW CX.out.lt).trans CX.out.cell))) (hS _ _ hI) ?_;go_frame;refine Rg.tg 20 25 (.pointer (some ⟨gb,1,none⟩)) 32 rfl rfl (.inl ⟨rfl,fun w _=>exec_fieldG _ rfl rfl⟩) (hS _ _ hI) ?_;go_frame;refine Rg.tg 21 25 (.slice ga (gs.map Ma.ofN).length gc) 33 rfl rfl (Rg.yc ⟨gb,1,none⟩ (fun W hW=>Rg.run_loadSl _ _ Tryz.underlying22 ((Below.cell (p:=⟨gb,1,none⟩) hW G0.out.lt).trans G0.out.c1))) (hS _ _ hI) ?_;go_frame
   refine Rg.tg 22 25 (.int .i64 (((gs.map Ma.ofN).length:Nat):Int)) 34 rfl rfl (.inl ⟨rfl,fun w _=>exec_len _ _ _ rfl Tryz.underlying22 _ _ _ rfl⟩) (hS _ _ hI) ?_;go_frame;refine Rg.Any.takeG (i:=23) (t:=25) (v:=.int .i64 (-(((gs.map Ma.ofN).length:Nat):Int))) (some 35) rfl rfl (by kernel_rfl) (by kernel_rfl) (by kernel_rfl) (fun _ _ _ h=>h) rfl (.inl ⟨rfl,fun w _=>exec_neg _ rfl rfl rfl (by omega)⟩) (hS _ _ hI) ?_;go_frame;refine Rg.tg 24 25 (.bool false) 36 rfl rfl (.inl ⟨rfl,fun w _=>exec_bin (R:=.bool false) .lss _ _ _ rfl rfl rfl (b_lss _ Rg.dF)⟩) (hS _ _ hI) ?_;go_frame;refine Rg.aR 25 37 rfl rfl (exec_pickF _ _ _ rfl rfl rfl) (hS _ _ hI) ?_;go_frame;refine Rg.Any.done (by kernel_rfl) ?_ _;clear hS hI;go_upto_region 3 with (fail);refine Rg.wl ?_;refine Rg.lm 10 (.int .i64 ((i:Nat):Int)) ?_;go_frame;refine Rg.lr 11 (Rg.bn (.int .i64 (((i+1):Nat):Int)) .add (h:=b_add _ (by omega) (by omega))) ?_;go_frame
   refine Rg.la 5 (.int .i64 (((i+1):Nat):Int)) ?_;go_frame;go_wp2
   go_roundw
   case rel=>exact ⟨i+1,by go_num,HIL.out,KR⟩
   case measure=>simp [intOf]; have:=HIL.out; omega
theorem lawValue_any (hg:∀ s∈gs,Gd N s) (hn1:1≤N) (hn2:N≤64) (hgl:gs.length≤16) (gv wv:Value) (u:List Int) (w:World) (h:Rg.Rows w gv (gs.map Ma.ofN)) (hu:Rg.Ints w wv u) (hul:u.length≤100000) (ho:okW gs.length u) :
  Calls Tryz.prog 32 #[.agg #[.int .i64 ((N:Nat):Int),gv],wv] w fun e w'=>∃ v,e=.returned v∧Rg.Ints w' v (Ma.ofN (evN N gs u))∧Below w.heap.size w w':=by
 obtain ⟨wa,wc,rfl,-,-,hum,-⟩:=hu.shape;have HU0:=ι (NpI.mk hu);have HGD:=ι hg;have HO:=ι ho;have HGL:=ι hgl;clear hu hg ho;obtain ⟨ga,gc,rfl,hga,hba⟩:=GI.enter (((N:Nat):Int)) h;have K:=ι hba;have G0:=ι hga;clear h hga hba;replace HU0:=ι (HU0.out.below ((Below.refl _ _).alloc (Nat.le_refl _) (.cells #[.int .i64 ((N:Nat):Int),.slice ga (gs.map Ma.ofN).length gc] 24)))
 go_enter Tryz.func32,Tryz.ntmps32
 go_upto_region 0 with (fail);refine Rg.wl ?_;refine Rg.lr 2 (Rg.exec_box _ _ rfl rfl) ?_;go_frame;refine Rg.la 4 (.slice none 0 0) ?_;go_frame;obtain ⟨gb,hgb⟩:∃ gb,w.heap.size=gb:=⟨_,rfl⟩;rw [hgb] at G0 ⊢;generalize w.alloc (.cells #[.int .i64 ((N:Nat):Int),.slice ga (gs.map Ma.ofN).length gc] 24)=w0 at *;clear hgb;go_upto_region 1 with (fail);refine Rg.wl ?_;refine Rg.lr 7 (exec_fieldG0 _ rfl rfl) ?_;go_frame;refine Rg.lr 8 (Rg.lo (.int .i64 ((N:Nat):Int)) ⟨gb,0,none⟩ (run_loadInt G0.out.c0)) ?_;go_frame;refine Rg.lk 9 (exec_fn1 37 _ _ rfl rfl (Zkcl0 _ _)) ?_;refine (kitOne_any N w0 (by omega)).mono ?_;rintro e1 w1 ⟨ov,rfl,hov,hb⟩;refine ⟨_,rfl,?_⟩;go_frame;replace G0:=ι (G0.out.below hb);replace HU0:=ι (HU0.out.below hb);replace K:=ι (Rg.acc K.out hb);clear hb;have NV:=ι (NpI.mk hov.1);refine Rg.la 5 (ov) ?_;go_frame;clear hov;go_upto_region 2 with (fail)
 refine Rg.wl ?_;refine Rg.la 6 (.int .i64 ((0:Nat):Int)) ?_;go_frame;have K1:=ι (Below.refl w1.heap.size w1);have GQ0:=ι (Cm.gd_one N);go_wp2
 go_loopw [5,6] (fun vv iv wr=>∃ (i:Nat) (q2:List Nat),iv=.int .i64 ((i:Nat):Int)∧i≤u.length∧Hid (NpI wr vv (Ma.ofN q2))∧Hid (Gd N q2)∧Hid ((u.take i).foldl (fun p x=>Ma.mulN p (ltV gs x)) (Ma.oneN N)=q2)∧Hid (Below w1.heap.size w1 wr)) (fun _ iv _=>u.length - (intOf iv).toNat)
 case atStart=>exact ⟨0,Ma.oneN N,rfl,Nat.zero_le _,NV,GQ0,ι rfl,K1⟩
 case round =>
  clear NV GQ0 K1;obtain ⟨i,q2,rfl,hi,NQ,GQ,HE,KR⟩:=hrel;obtain ⟨va,vc,rfl,-⟩:=NQ.out.i.shape;replace G0:=ι (G0.out.below KR.out);replace HU0:=ι (HU0.out.below KR.out);have KL:=ι (Rg.acc K.out KR.out)
  by_cases hil:i<u.length
  case neg =>
   have HTT:=ι (show u.foldl (fun p x=>Ma.mulN p (ltV gs x)) (Ma.oneN N)=q2 by rw [← HE.out,List.take_of_length_le (by omega)]);go_upto_region 3 with (fail);refine Rg.wl ?_;refine Rg.lm 10 (.int .i64 ((i:Nat):Int)) ?_;go_frame;refine Rg.lm 11 (.slice wa u.length wc) ?_;go_frame;refine Rg.lr 12 (Rg.ln Tryz.underlying26) ?_;go_frame;refine Rg.lr 13 (Rg.bn (.bool false) .lss (h:=b_lss _ Rg.dF)) ?_;go_frame;go_upto_region 8 with (fail);refine Rg.wl ?_;refine Rg.lm 45 (.slice va (Ma.ofN q2).length vc) ?_;go_frame;refine Rg.la 4 (.slice va (Ma.ofN q2).length vc) ?_;go_frame;go_wp2;go_ret;exact ⟨_,rfl,by show Rg.Ints _ _ (Ma.ofN (u.foldl (fun p x=>Ma.mulN p (ltV gs x)) (Ma.oneN N))); rw [HTT.out]; exact NQ.out.i,KL.out⟩
  case pos =>
   obtain ⟨b,o,e1,hb0,hc0⟩:=ints_get HU0.out.i hil;subst e1;obtain ⟨x,hx⟩:∃ x,Hid (u[i]'hil=x):=⟨_,ι rfl⟩;rw [hx.out] at hc0;have CX:=ι (CL.mk hc0 hb0);have HIL:=ι hil;have HXO:=ι (show x≠0∧x≤(gs.length:Int)∧-(gs.length:Int)≤x from hx.out▸HO.out _ (List.getElem_mem hil));clear hb0 hc0;have HEN:=ι (show (u.take (i+1)).foldl (fun p x=>Ma.mulN p (ltV gs x)) (Ma.oneN N)=Ma.mulN q2 (ltV gs x) by rw [List.take_succ_eq_append_getElem hil,List.foldl_append,HE.out,hx.out]; rfl);have GLX:=ι (ltV_gd HGD.out HXO.out)
   have hi9:i<100000:=by omega
   clear KL
   by_cases h0:0<x
   case pos =>
    obtain ⟨k,rfl⟩:∃ k:Nat,x=((k:Nat):Int)+1:=⟨(x - 1).toNat,by omega⟩
    have hk:k<gs.length:=by have:=HXO.out; omega
    have HLV:=ι (ltV_pos hk);have HK:=ι hk;generalize hs0:gs[k]'hk=s at HLV;have hs:=ι hs0;clear hs0;have GS:=ι (show Gd N s from hs.out▸HGD.out _ (List.getElem_mem _));obtain ⟨b1,o1,sa,sc,e1,hb1,hc1,hr1⟩:=rows_get G0.out.rows (i:=k) (by rw [List.length_map]; exact hk);subst e1
    have e5:((gs.map Ma.ofN)[k]'(by rw [List.length_map]; exact hk))=Ma.ofN s:=by rw [List.getElem_map,hs.out]
    rw [e5] at hc1 hr1;have CS:=ι (CL.mk hc1 hb1);have NS:=ι (NpI.mk hr1)
    have hk16:k<16:=by have:=HGL.out; omega
    clear hc1 hb1 hr1 e5;go_upto_region 3 with (fail);refine Rg.wl ?_;refine Rg.lm 10 (.int .i64 ((i:Nat):Int)) ?_;go_frame;refine Rg.lm 11 (.slice (some ⟨b,o,none⟩) u.length wc) ?_;go_frame;refine Rg.lr 12 (Rg.ln Tryz.underlying26) ?_;go_frame;refine Rg.lr 13 (Rg.bn (.bool true) .lss (h:=b_lss _ Rg.dT)) ?_;go_frame;go_upto_region 5 with (fail);refine Rg.wl ?_;refine Rg.lm 16 (.slice (some ⟨b,o,none⟩) u.length wc) ?_;go_frame;refine Rg.lm 17 (.int .i64 ((i:Nat):Int)) ?_;go_frame;refine Rg.lr 18 (exec_indexS slWord _ _ rfl b (o) (u.length) wc (i) rfl rfl HIL.out) ?_;go_frame;refine Rg.lr 19 (Rg.lo (.int .i64 (((k:Nat):Int)+1)) ⟨b,o+i,none⟩ (run_loadInt CX.out.cell)) ?_;go_frame;refine Rg.lr 20 (Rg.bn (.bool true) .gtr (h:=b_gtr _ (decide_eq_true h0))) ?_;go_frame;go_upto_region 6 with (fail);have hV0:Below wr.heap.size wr wr.drew:=(Below.refl _ _).drew;replace G0:=ι (G0.out.below hV0)
    replace HU0:=ι (HU0.out.below hV0);replace NQ:=ι (NQ.out.below hV0);replace CX:=ι (CX.out.below hV0);replace CS:=ι (CS.out.below hV0);replace NS:=ι (NS.out.below hV0);replace KR:=ι (Rg.acc KR.out hV0);clear hV0;refine Rg.Any.begin (S:=Rg.Both 11 (fun _=>True) (fun W=>Below wr.drew.heap.size wr.drew W)) mix ?_;generalize wr.drew=w22 at *;have hS:∀ (l:Array Bool) W,Below w22.heap.size w22 W→Rg.Both 11 (fun _=>True) (fun W=>Below w22.heap.size w22 W) l W:=fun l W h=>⟨.inr trivial,h⟩;have hI:Below w22.heap.size w22 w22:=Below.refl _ _;refine Rg.tm 0 11 (.slice va (Ma.ofN q2).length vc) 21 (hS _ _ hI) ?_;go_frame;refine Rg.tg 1 11 (.pointer (some ⟨gb,1,none⟩)) 22 rfl rfl (.inl ⟨rfl,fun w _=>exec_fieldG _ rfl rfl⟩) (hS _ _ hI) ?_;go_frame;refine Rg.tg 2 11 (.slice (some ⟨b1,o1,none⟩) (gs.map Ma.ofN).length gc) 23 rfl rfl (Rg.yc ⟨gb,1,none⟩ (fun W hW=>Rg.run_loadSl _ _ Tryz.underlying22 ((Below.cell (p:=⟨gb,1,none⟩) hW G0.out.lt).trans G0.out.c1))) (hS _ _ hI) ?_;go_frame
    refine Rg.tm 3 11 (.slice (some ⟨b,o,none⟩) u.length wc) 24 (hS _ _ hI) ?_;go_frame;refine Rg.tm 4 11 (.int .i64 ((i:Nat):Int)) 25 (hS _ _ hI) ?_;go_frame;refine Rg.tg 5 11 (.pointer (some ⟨b,o+i,none⟩)) 26 rfl rfl (Rg.yields_index slWord _ _ rfl rfl b (o) (u.length) wc (i) rfl rfl HIL.out) (hS _ _ hI) ?_;go_frame;refine Rg.tg 6 11 (.int .i64 (((k:Nat):Int)+1)) 27 rfl rfl (Rg.yc ⟨b,o+i,none⟩ (fun W hW=>run_loadInt ((Below.cell (p:=⟨b,o+i,none⟩) hW CX.out.lt).trans CX.out.cell))) (hS _ _ hI) ?_;go_frame;refine Rg.tg 7 11 (.int .i64 ((k:Nat):Int)) 28 rfl rfl (.inl ⟨rfl,fun w _=>exec_bin (R:=.int .i64 ((k:Nat):Int)) .sub _ _ _ rfl rfl rfl (b_sub _ (by omega) (by omega))⟩) (hS _ _ hI) ?_;go_frame;refine Rg.tg 8 11 (.pointer (some ⟨b1,o1+k,none⟩)) 29 rfl rfl (Rg.yields_index slPerms _ _ rfl rfl b1 (o1) ((gs.map Ma.ofN).length) gc (k) rfl rfl (by rw [List.length_map]; exact HK.out)) (hS _ _ hI) ?_;go_frame
    refine Rg.tg 9 11 ((.slice sa (Ma.ofN s).length sc)) 30 rfl rfl (Rg.yc ⟨b1,o1+k,none⟩ (fun W hW=>Rg.run_loadSl _ _ Tryz.underlying30 ((Below.cell (p:=⟨b1,o1+k,none⟩) hW CS.out.lt).trans CS.out.cell))) (hS _ _ hI) ?_;go_frame;refine Rg.Any.one (i:=10) (by kernel_rfl) (Rg.Any.ask (some 31) rfl rfl rfl _ _ (exec_fn 34 _ _ _ rfl rfl rfl (Zlcl4 _ _)) ?_);refine (kitMul_any _ _ q2 s w22 NQ.out.i NS.out.i (fun z hz=>by rw [GS.out.2]; exact gd_mem GQ.out hz) (by rw [GQ.out.2]; omega)).mono ?_;rintro e1 w23 ⟨mv,rfl,hmv,hb⟩;have hI2_0:=Rg.acc hI hb;clear hb hI;refine ⟨_,rfl,(hS _ _ hI2_0),?_⟩;go_frame;have NM:=ι (NpI.mk hmv.1);refine Rg.aR 11 5 rfl rfl (Rg.xa (mv) _ rfl rfl) (hS _ _ hI2_0) ?_;go_frame;refine Rg.Any.done (by kernel_rfl) ?_ _;replace G0:=ι (G0.out.below hI2_0);replace HU0:=ι (HU0.out.below hI2_0);replace NQ:=ι (NQ.out.below hI2_0);replace CX:=ι (CX.out.below hI2_0)
    replace CS:=ι (CS.out.below hI2_0);replace NS:=ι (NS.out.below hI2_0);replace KR:=ι (Rg.acc KR.out hI2_0);clear hS hI2_0;rw [← HLV.out] at NM;clear hmv;go_upto_region 4 with (fail);refine Rg.wl ?_;refine Rg.lm 14 (.int .i64 ((i:Nat):Int)) ?_;go_frame;refine Rg.lr 15 (Rg.bn (.int .i64 (((i+1):Nat):Int)) .add (h:=b_add _ (by omega) (by omega))) ?_;go_frame;refine Rg.la 6 (.int .i64 (((i+1):Nat):Int)) ?_;go_frame;go_wp2
    go_roundw
    case rel=>exact ⟨i+1,_,by go_num,HIL.out,NM,ι (Cm.gd_mul GQ.out GLX.out),HEN,KR⟩
    case measure=>simp [intOf]; have:=HIL.out; omega
   case neg =>
    obtain ⟨k,rfl⟩:∃ k:Nat,x = -((k:Nat):Int) - 1:=⟨(-x - 1).toNat,by have:=HXO.out; omega⟩
    have hk:k<gs.length:=by have:=HXO.out; omega
    have HLV:=ι (ltV_neg hk);have HK:=ι hk;generalize hs0:gs[k]'hk=s at HLV;have hs:=ι hs0;clear hs0;have GS:=ι (show Gd N s from hs.out▸HGD.out _ (List.getElem_mem _));obtain ⟨b1,o1,sa,sc,e1,hb1,hc1,hr1⟩:=rows_get G0.out.rows (i:=k) (by rw [List.length_map]; exact hk);subst e1
    have e5:((gs.map Ma.ofN)[k]'(by rw [List.length_map]; exact hk))=Ma.ofN s:=by rw [List.getElem_map,hs.out]
    rw [e5] at hc1 hr1;have CS:=ι (CL.mk hc1 hb1);have NS:=ι (NpI.mk hr1)
    have hk16:k<16:=by have:=HGL.out; omega
    clear hc1 hb1 hr1 e5;go_upto_region 3 with (fail);refine Rg.wl ?_;refine Rg.lm 10 (.int .i64 ((i:Nat):Int)) ?_;go_frame;refine Rg.lm 11 (.slice (some ⟨b,o,none⟩) u.length wc) ?_;go_frame;refine Rg.lr 12 (Rg.ln Tryz.underlying26) ?_;go_frame;refine Rg.lr 13 (Rg.bn (.bool true) .lss (h:=b_lss _ Rg.dT)) ?_;go_frame;go_upto_region 5 with (fail);refine Rg.wl ?_;refine Rg.lm 16 (.slice (some ⟨b,o,none⟩) u.length wc) ?_;go_frame;refine Rg.lm 17 (.int .i64 ((i:Nat):Int)) ?_;go_frame;refine Rg.lr 18 (exec_indexS slWord _ _ rfl b (o) (u.length) wc (i) rfl rfl HIL.out) ?_;go_frame;refine Rg.lr 19 (Rg.lo (.int .i64 (-((k:Nat):Int) - 1)) ⟨b,o+i,none⟩ (run_loadInt CX.out.cell)) ?_;go_frame;refine Rg.lr 20 (Rg.bn (.bool false) .gtr (h:=b_gtr _ (decide_eq_false h0))) ?_;go_frame;go_upto_region 7 with (fail);have hV0:Below wr.heap.size wr wr.drew:=(Below.refl _ _).drew;replace G0:=ι (G0.out.below hV0)
    replace HU0:=ι (HU0.out.below hV0);replace NQ:=ι (NQ.out.below hV0);replace CX:=ι (CX.out.below hV0);replace CS:=ι (CS.out.below hV0);replace NS:=ι (NS.out.below hV0);replace KR:=ι (Rg.acc KR.out hV0);clear hV0;refine Rg.Any.begin (S:=Rg.Both 13 (fun _=>True) (fun W=>Below wr.drew.heap.size wr.drew W)) mix ?_;generalize wr.drew=w62 at *;have hS:∀ (l:Array Bool) W,Below w62.heap.size w62 W→Rg.Both 13 (fun _=>True) (fun W=>Below w62.heap.size w62 W) l W:=fun l W h=>⟨.inr trivial,h⟩;have hI:Below w62.heap.size w62 w62:=Below.refl _ _;refine Rg.tm 0 13 (.slice va (Ma.ofN q2).length vc) 32 (hS _ _ hI) ?_;go_frame;refine Rg.tg 1 13 (.pointer (some ⟨gb,1,none⟩)) 33 rfl rfl (.inl ⟨rfl,fun w _=>exec_fieldG _ rfl rfl⟩) (hS _ _ hI) ?_;go_frame;refine Rg.tg 2 13 (.slice (some ⟨b1,o1,none⟩) (gs.map Ma.ofN).length gc) 34 rfl rfl (Rg.yc ⟨gb,1,none⟩ (fun W hW=>Rg.run_loadSl _ _ Tryz.underlying22 ((Below.cell (p:=⟨gb,1,none⟩) hW G0.out.lt).trans G0.out.c1))) (hS _ _ hI) ?_;go_frame
    refine Rg.tm 3 13 (.slice (some ⟨b,o,none⟩) u.length wc) 35 (hS _ _ hI) ?_;go_frame;refine Rg.tm 4 13 (.int .i64 ((i:Nat):Int)) 36 (hS _ _ hI) ?_;go_frame;refine Rg.tg 5 13 (.pointer (some ⟨b,o+i,none⟩)) 37 rfl rfl (Rg.yields_index slWord _ _ rfl rfl b (o) (u.length) wc (i) rfl rfl HIL.out) (hS _ _ hI) ?_;go_frame;refine Rg.tg 6 13 (.int .i64 (-((k:Nat):Int) - 1)) 38 rfl rfl (Rg.yc ⟨b,o+i,none⟩ (fun W hW=>run_loadInt ((Below.cell (p:=⟨b,o+i,none⟩) hW CX.out.lt).trans CX.out.cell))) (hS _ _ hI) ?_;go_frame;refine Rg.tg 7 13 (.int .i64 (((k:Nat):Int)+1)) 39 rfl rfl (.inl ⟨rfl,fun w _=>exec_neg (r:=((k:Nat):Int)+1) _ rfl rfl (by omega) (by omega)⟩) (hS _ _ hI) ?_;go_frame;refine Rg.tg 8 13 (.int .i64 ((k:Nat):Int)) 40 rfl rfl (.inl ⟨rfl,fun w _=>exec_bin (R:=.int .i64 ((k:Nat):Int)) .sub _ _ _ rfl rfl rfl (b_sub _ (by omega) (by omega))⟩) (hS _ _ hI) ?_;go_frame
    refine Rg.tg 9 13 (.pointer (some ⟨b1,o1+k,none⟩)) 41 rfl rfl (Rg.yields_index slPerms _ _ rfl rfl b1 (o1) ((gs.map Ma.ofN).length) gc (k) rfl rfl (by rw [List.length_map]; exact HK.out)) (hS _ _ hI) ?_;go_frame;refine Rg.tg 10 13 ((.slice sa (Ma.ofN s).length sc)) 42 rfl rfl (Rg.yc ⟨b1,o1+k,none⟩ (fun W hW=>Rg.run_loadSl _ _ Tryz.underlying30 ((Below.cell (p:=⟨b1,o1+k,none⟩) hW CS.out.lt).trans CS.out.cell))) (hS _ _ hI) ?_;go_frame;refine Rg.Any.one (i:=11) (by kernel_rfl) (Rg.Any.ask (some 43) rfl rfl rfl _ _ (exec_fn1 50 _ _ rfl rfl (Dncl2 _ _)) ?_);refine (kitInv_any _ s w62 NS.out.i GS.out.1 (by rw [GS.out.2]; omega)).mono ?_;rintro e1 w63 ⟨iv,rfl,hiv,hb⟩;have hI3_0:=Rg.acc hI hb;clear hb hI;refine ⟨_,rfl,(hS _ _ hI3_0),?_⟩;go_frame;have NI:=ι (NpI.mk hiv.1);refine Rg.Any.one (i:=12) (by kernel_rfl) (Rg.Any.ask (some 44) rfl rfl rfl _ _ (exec_fn 34 _ _ _ rfl rfl rfl (Zlcl4 _ _)) ?_)
    refine (kitMul_any _ _ q2 (Ma.invN s) w63 (NQ.out.below hI3_0).i NI.out.i (fun z hz=>by rw [(Cm.gd_inv GS.out).2]; exact gd_mem GQ.out hz) (by rw [GQ.out.2]; omega)).mono ?_;rintro e1 w64 ⟨mv,rfl,hmv,hb⟩;have hI4_0:=Rg.acc hI3_0 hb;have hI4_1:=hb;clear hb hI3_0;refine ⟨_,rfl,(hS _ _ hI4_0),?_⟩;go_frame;have NM:=ι (NpI.mk hmv.1);refine Rg.aR 13 5 rfl rfl (Rg.xa (mv) _ rfl rfl) (hS _ _ hI4_0) ?_;go_frame;refine Rg.Any.done (by kernel_rfl) ?_ _;replace G0:=ι (G0.out.below hI4_0);replace HU0:=ι (HU0.out.below hI4_0);replace NQ:=ι (NQ.out.below hI4_0);replace CX:=ι (CX.out.below hI4_0);replace CS:=ι (CS.out.below hI4_0);replace NS:=ι (NS.out.below hI4_0);replace NI:=ι (NI.out.below hI4_1);replace KR:=ι (Rg.acc KR.out hI4_0);clear hS hI4_0 hI4_1;rw [← HLV.out] at NM;clear hmv hiv;go_upto_region 4 with (fail);refine Rg.wl ?_;refine Rg.lm 14 (.int .i64 ((i:Nat):Int)) ?_;go_frame
    refine Rg.lr 15 (Rg.bn (.int .i64 (((i+1):Nat):Int)) .add (h:=b_add _ (by omega) (by omega))) ?_;go_frame;refine Rg.la 6 (.int .i64 (((i+1):Nat):Int)) ?_;go_frame;go_wp2
    go_roundw
    case rel=>exact ⟨i+1,_,by go_num,HIL.out,NM,ι (Cm.gd_mul GQ.out GLX.out),HEN,KR⟩
    case measure=>simp [intOf]; have:=HIL.out; omega
end Go.Proofs.YtdnmmibchbceeaaGreat

namespace Go.Proofs.YtdnmmibchbceeaaGreat
open Go.RowKit
open Go.Proofs
open Go.Proofs.Ob
open Go.Proofs.Cm (Gd Gr IsChain ap)
def rk (x:Int):Nat:=if x<0 then 2*(-x - 1).toNat+1 else 2*(x - 1).toNat
def Lx:List Int→List Int→Prop
 | a :: u,b :: v=>rk a<rk b∨(a=b∧Lx u v)
 | _,_=>False
def SL (u v:List Int):Prop:=u.length<v.length∨(u.length=v.length∧Lx u v)
def SLe (u v:List Int):Prop:=u=v∨SL u v
theorem Lx.irr:∀ {u:List Int},¬ Lx u u
 | [],h=>h
 | a :: u,h=>h.elim (fun h=>Nat.lt_irrefl _ h) fun h=>Lx.irr (u:=u) h.2
theorem Lx.trans:∀ {u v w:List Int},Lx u v→Lx v w→Lx u w
 | [],_,_,h,_=>h.elim
 | _ :: _,[],_,h,_=>h.elim
 | _ :: _,_ :: _,[],_,h=>h.elim
 | a :: u,b :: v,c :: w,h,h'=>by
  rcases h with h | ⟨rfl,h⟩ <;> rcases h' with h' | ⟨rfl,h'⟩
  ·exact .inl (Nat.lt_trans h h')
  ·exact .inl h
  ·exact .inl h'
  ·exact .inr ⟨rfl,Lx.trans h h'⟩
theorem Lx.app:∀ {u v:List Int} (s t:List Int),Lx u v→Lx (u++s) (v++t)
 | [],_,_,_,h=>h.elim
 | _ :: _,[],_,_,h=>h.elim
 | a :: u,b :: v,s,t,h=>by
  rcases h with h | ⟨rfl,h⟩
  ·exact .inl h
  ·exact .inr ⟨rfl,Lx.app s t h⟩
theorem Lx.pre {u v:List Int} (h:Lx u v):∀ p:List Int,Lx (p++u) (p++v)
 | []=>h
 | a :: p=>.inr ⟨rfl,Lx.pre h p⟩
theorem SL.irr {u:List Int} (h:SL u u):False:=h.elim (fun h=>Nat.lt_irrefl _ h) fun h=>Lx.irr h.2
theorem SL.trans {u v w:List Int} (h:SL u v) (h':SL v w):SL u w:=by
 rcases h with h | ⟨h,g⟩ <;> rcases h' with h' | ⟨h',g'⟩
 ·exact .inl (by omega)
 ·exact .inl (by omega)
 ·exact .inl (by omega)
 ·exact .inr ⟨by omega,g.trans g'⟩
theorem SL.snoc {u v:List Int} (a b:Int) (h:SL u v):SL (u++[a]) (v++[b]):=by
 rcases h with h | ⟨h,g⟩
 ·exact .inl (by simp; omega)
 ·exact .inr ⟨by simp; omega,g.app _ _⟩
theorem SL.app {u v:List Int} (s:List Int) (h:SL u v):SL (u++s) (v++s):=by
 rcases h with h | ⟨h,g⟩
 ·exact .inl (by simp; omega)
 ·exact .inr ⟨by simp; omega,g.app _ _⟩
theorem SL.pre {u v:List Int} (p:List Int) (h:SL u v):SL (p++u) (p++v):=by
 rcases h with h | ⟨h,g⟩
 ·exact .inl (by simp; omega)
 ·exact .inr ⟨by simp; omega,g.pre p⟩
theorem SL.last {a b:Int} (p:List Int) (h:rk a<rk b):SL (p++[a]) (p++[b]):=.inr ⟨by simp,Lx.pre (show Lx [a] [b] from Or.inl h) p⟩
theorem SLe.len {u v:List Int} (h:SLe u v):u.length≤v.length:=by
 rcases h with rfl | h | h
 ·exact Nat.le_refl _
 ·omega
 ·omega
theorem SLe.trans {u v w:List Int} (h:SLe u v) (h':SLe v w):SLe u w:=by
 rcases h with rfl | h
 ·exact h'
 ·rcases h' with rfl | h'
  ·exact .inr h
  ·exact .inr (h.trans h')
theorem SLe.app {u v:List Int} (s:List Int) (h:SLe u v):SLe (u++s) (v++s):=by
 rcases h with rfl | h
 ·exact .inl rfl
 ·exact .inr (h.app s)
theorem lets_rk (n:Nat):(lets n).Pairwise (fun a b=>rk a<rk b)∧∀ a∈lets n,rk a<2*n:=by
 induction n with
 | zero=>exact ⟨List.Pairwise.nil,fun a h=>by simp [lets] at h⟩
 | succ n ih =>
  have e1:rk ((n:Int)+1)=2*n:=by unfold rk; rw [if_neg (by omega)]; omega
  have e2:rk (-(n:Int) - 1)=2*n+1:=by unfold rk; rw [if_pos (by omega)]; omega
  rw [lets_succ];refine ⟨List.pairwise_append.2 ⟨ih.1,?_,fun a ha b hb=>?_⟩,fun a ha=>?_⟩
  ·refine List.Pairwise.cons (fun b hb=>?_) (List.pairwise_singleton _ _)
   rw [List.mem_singleton] at hb; subst hb; omega
  ·have:=ih.2 a ha
   simp only [List.mem_cons,List.not_mem_nil,or_false] at hb
   rcases hb with rfl | rfl <;> omega
  ·rcases List.mem_append.1 ha with ha | ha
   ·have:=ih.2 a ha; omega
   ·simp only [List.mem_cons,List.not_mem_nil,or_false] at ha
    rcases ha with rfl | rfl <;> omega
theorem mlets_snoc (gs:List (List Nat)) (s:List Nat):mlets (gs++[s])=mlets gs++[(s,(gs.length:Int)+1),(Ma.invN s,-(gs.length:Int) - 1)]:=by
 unfold mlets;rw [moves_snoc,List.length_append,List.length_singleton,lets_succ,List.zip_append (by rw [len_moves,len_lets])];rfl
theorem mlets_snd (gs:List (List Nat)):(mlets gs).map (·.2)=lets gs.length:=by
 unfold mlets;rw [List.map_snd_zip];rw [len_moves,len_lets]; exact Nat.le_refl _
theorem mlets_rk (gs:List (List Nat)):(mlets gs).Pairwise fun a b=>rk a.2<rk b.2:=by
 have:=(lets_rk gs.length).1;rw [← mlets_snd,List.pairwise_map] at this;exact this
theorem mlets_iff:∀ (n:Nat) (gs:List (List Nat)),gs.length=n→∀ y,y∈mlets gs↔∃ (i:Nat) (s:List Nat),gs[i]?=some s∧(y=(s,(i:Int)+1)∨y=(Ma.invN s,-(i:Int) - 1))
 | 0,gs,hl,y=>by
  obtain rfl:=List.length_eq_zero_iff.1 hl;exact ⟨fun h=>by simp [mlets,moves,lets] at h,fun ⟨i,s,h,_⟩=>by simp at h⟩
 | n+1,gs,hl,y=>by
  have hne:gs≠[]:=fun e=>by rw [e] at hl; simp at hl
  obtain ⟨l,s,rfl⟩:∃ l s,gs=l++[s]:=⟨gs.dropLast,gs.getLast hne,(List.dropLast_concat_getLast hne).symm⟩
  have hl:l.length=n:=by simpa using hl
  rw [mlets_snoc,List.mem_append,mlets_iff n l hl y]
  constructor
  ·rintro (⟨i,t,h1,h2⟩ | h)
   ·have:=(List.getElem?_eq_some_iff.1 h1).1
    exact ⟨i,t,by rw [List.getElem?_append_left this]; exact h1,h2⟩
   ·refine ⟨l.length,s,by simp,?_⟩
    simpa using h
  ·rintro ⟨i,t,h1,h2⟩
   by_cases hi:i<l.length
   ·rw [List.getElem?_append_left hi] at h1
    exact .inl ⟨i,t,h1,h2⟩
   ·have h3:=(List.getElem?_eq_some_iff.1 h1).1
    simp only [List.length_append,List.length_singleton] at h3
    obtain rfl:i=l.length:=by omega
    rw [List.getElem?_concat_length] at h1;obtain rfl:=Option.some.inj h1;refine .inr ?_
    simpa using h2
theorem mlets_lt {y:List Nat × Int} (h:y∈mlets gs):y.2≠0∧y.2≤(gs.length:Int)∧-(gs.length:Int)≤y.2∧ltV gs y.2=y.1:=by
 obtain ⟨i,s,h1,h2⟩:=(mlets_iff _ gs rfl y).1 h;obtain ⟨hi,rfl⟩:=List.getElem?_eq_some_iff.1 h1
 rcases h2 with rfl | rfl
 ·exact ⟨by show (i:Int)+1≠0; omega,by show (i:Int)+1≤_; omega,by show _≤(i:Int)+1; omega,ltV_pos hi⟩
 ·exact ⟨by show -(i:Int) - 1≠0; omega,by show -(i:Int) - 1≤_; omega,by show _≤-(i:Int) - 1; omega,ltV_neg hi⟩
theorem lt_mlets {a:Int} (h:a≠0∧a≤(gs.length:Int)∧-(gs.length:Int)≤a):(ltV gs a,a)∈mlets gs:=by
 rw [mlets_iff _ gs rfl]
 by_cases h0:a<0
 ·obtain ⟨k,rfl⟩:∃ k:Nat,a = -((k:Nat):Int) - 1:=⟨(-a - 1).toNat,by omega⟩
  have hk:k<gs.length:=by omega
  exact ⟨k,gs[k],List.getElem?_eq_getElem hk,.inr (by rw [ltV_neg hk])⟩
 ·obtain ⟨k,rfl⟩:∃ k:Nat,a=((k:Nat):Int)+1:=⟨(a - 1).toNat,by omega⟩
  have hk:k<gs.length:=by omega
  exact ⟨k,gs[k],List.getElem?_eq_getElem hk,.inl (by rw [ltV_pos hk])⟩
def Zp (st:BSt):List (List Nat × List Int):=st.1.zip st.2
theorem Zp.step {x:List Nat} {wd:List Int} {st:BSt} (hl:st.2.length=st.1.length) (y:List Nat × Int):(bfStep x wd st y).2.length=(bfStep x wd st y).1.length∧((Ma.mulN x y.1∈st.1∧bfStep x wd st y=st)∨(Ma.mulN x y.1∉st.1∧Zp (bfStep x wd st y)=Zp st++[(Ma.mulN x y.1,wd++[y.2])])):=by
 unfold bfStep
 split
 ·rename_i h; exact ⟨hl,.inl ⟨h,rfl⟩⟩
 ·rename_i h
  refine ⟨by simp [hl],.inr ⟨h,?_⟩⟩;unfold Zp;rw [List.zip_append hl.symm]; rfl
theorem Zp.mem {st:BSt} (hl:st.2.length=st.1.length) {x:List Nat} (h:x∈st.1):∃ u,(x,u)∈Zp st:=by
 obtain ⟨i,hi,rfl⟩:=List.getElem_of_mem h;refine ⟨st.2[i]'(by omega),?_⟩;unfold Zp;rw [List.mem_iff_getElem];exact ⟨i,by simp; omega,by simp⟩
def WI (N:Nat) (gs:List (List Nat)) (st:BSt):Prop:=∀ q∈Zp st,okW gs.length q.2∧evN N gs q.2=q.1
def WAsc (st:BSt):Prop:=(Zp st).Pairwise fun a b=>SL a.2 b.2
theorem ev_snoc (N:Nat) (gs:List (List Nat)) (u:List Int) (a:Int):evN N gs (u++[a])=Ma.mulN (evN N gs u) (ltV gs a):=by
 unfold evN; rw [List.foldl_append]; rfl
theorem okW.app {u v:List Int} (h:okW n u) (h':okW n v):okW n (u++v):=fun x hx=>(List.mem_append.1 hx).elim (h x) (h' x)
theorem okW.one {a:Int} (h:a≠0∧a≤(n:Int)∧-(n:Int)≤a):okW n [a]:=fun x hx=>by rw [List.mem_singleton] at hx; rw [hx]; exact h
theorem row_words {N:Nat} {gs:List (List Nat)} {x:List Nat} {wd:List Int} (ho:okW gs.length wd) (he:evN N gs wd=x) :
  ∀ (l:List (List Nat × Int)) (st:BSt),(∀ y∈l,y∈mlets gs)→l.Pairwise (fun a b=>rk a.2<rk b.2)→st.2.length=st.1.length→WI N gs st→WAsc st→(∀ q∈Zp st,∀ y∈l,SL q.2 (wd++[y.2])) →
   (l.foldl (bfStep x wd) st).2.length=(l.foldl (bfStep x wd) st).1.length∧WI N gs (l.foldl (bfStep x wd) st)∧WAsc (l.foldl (bfStep x wd) st)∧(∀ q∈Zp st,q∈Zp (l.foldl (bfStep x wd) st)) ∧
   (∀ q∈Zp (l.foldl (bfStep x wd) st),q∈Zp st∨∃ b,q.2=wd++[b])∧(∀ y∈l,∃ u,(Ma.mulN x y.1,u)∈Zp (l.foldl (bfStep x wd) st)∧SLe u (wd++[y.2]))
 | [],st,_,_,hl,h1,h2,_=>⟨hl,h1,h2,fun _=>id,fun _ h=>.inl h,fun _ h=>absurd h (List.not_mem_nil)⟩
 | y :: l,st,hy,hp,hl,h1,h2,h3=>by
  obtain ⟨hp1,hp2⟩:=List.pairwise_cons.1 hp;have hym:=mlets_lt (hy y (List.mem_cons_self ..));obtain ⟨hl',hs⟩:=Zp.step (x:=x) (wd:=wd) hl y
  have key:WI N gs (bfStep x wd st y)∧WAsc (bfStep x wd st y)∧(∀ q∈Zp (bfStep x wd st y),∀ z∈l,SL q.2 (wd++[z.2]))∧(∀ q∈Zp st,q∈Zp (bfStep x wd st y))∧(∀ q∈Zp (bfStep x wd st y),q∈Zp st∨∃ b,q.2=wd++[b])∧∃ u,(Ma.mulN x y.1,u)∈Zp (bfStep x wd st y)∧SLe u (wd++[y.2]):=by
   rcases hs with ⟨hm,e⟩ | ⟨hm,e⟩
   ·rw [e]
    obtain ⟨u,hu⟩:=Zp.mem hl hm;exact ⟨h1,h2,fun q hq z hz=>h3 q hq z (List.mem_cons_of_mem _ hz),fun _=>id,fun _ h=>.inl h,u,hu,.inr (h3 _ hu y (List.mem_cons_self ..))⟩
   ·unfold WI WAsc
    rw [e];refine ⟨fun q hq=>?_,List.pairwise_append.2 ⟨h2,List.pairwise_singleton _ _,fun a ha b hb=>?_⟩,fun q hq z hz=>?_,fun q hq=>List.mem_append_left _ hq,fun q hq=>?_,wd++[y.2],List.mem_append_right _ (List.mem_singleton.2 rfl),.inl rfl⟩
    ·rcases List.mem_append.1 hq with hq | hq
     ·exact h1 q hq
     ·rw [List.mem_singleton] at hq; subst hq
      refine ⟨ho.app (okW.one ⟨hym.1,hym.2.1,hym.2.2.1⟩),?_⟩;show evN N gs (wd++[y.2])=_;rw [ev_snoc,he,hym.2.2.2]
    ·rw [List.mem_singleton] at hb; subst hb
     exact h3 a ha y (List.mem_cons_self ..)
    ·rcases List.mem_append.1 hq with hq | hq
     ·exact h3 q hq z (List.mem_cons_of_mem _ hz)
     ·rw [List.mem_singleton] at hq; subst hq
      exact SL.last _ (hp1 z hz)
    ·rcases List.mem_append.1 hq with hq | hq
     ·exact .inl hq
     ·rw [List.mem_singleton] at hq; subst hq
      exact .inr ⟨_,rfl⟩
  obtain ⟨k1,k2,k3,k4,k5,u,k6,k7⟩:=key;obtain ⟨r0,r1,r2,r3,r4,r5⟩:=row_words ho he l (bfStep x wd st y) (fun z hz=>hy z (List.mem_cons_of_mem _ hz)) hp2 hl' k1 k2 k3;refine ⟨r0,r1,r2,fun q hq=>r3 q (k4 q hq),fun q hq=>?_,fun z hz=>?_⟩
  ·rcases r4 q hq with h | h
   ·exact k5 q h
   ·exact .inr h
  ·rcases List.mem_cons.1 hz with rfl | hz
   ·exact ⟨u,r3 _ k6,k7⟩
   ·exact r5 z hz
theorem bfs_words {N:Nat} {gs:List (List Nat)} (hg:∀ s∈gs,Gd N s):∀ i:Nat,
  WI N gs (bfs (mlets gs) N i)∧WAsc (bfs (mlets gs) N i)∧(∀ p,(Zp (bfs (mlets gs) N i))[i]?=some p→∀ q∈Zp (bfs (mlets gs) N i),∀ a,SL q.2 (p.2++[a])) ∧
  (∀ j p,j<i→(Zp (bfs (mlets gs) N i))[j]?=some p→∀ y∈mlets gs,∃ u,(Ma.mulN p.1 y.1,u)∈Zp (bfs (mlets gs) N i)∧SLe u (p.2++[y.2]))
 | 0=>⟨fun q hq=>by
   have hq:q∈[(Ma.oneN N,([]:List Int))]:=hq;rw [List.mem_singleton] at hq; subst hq
   exact ⟨fun x hx=>absurd hx (List.not_mem_nil),rfl⟩,List.pairwise_singleton _ _,fun p hp q hq a=>by
   have hq:q∈[(Ma.oneN N,([]:List Int))]:=hq;rw [List.mem_singleton] at hq; subst hq
   exact .inl (by simp),fun j p h=>absurd h (Nat.not_lt_zero _)⟩
 | i+1=>by
  obtain ⟨h1,h2,h3,h4⟩:=bfs_words hg i;have hb:=bfs_BI (N:=N) (mlets_gd hg) i
  by_cases h:i<(bfs (mlets gs) N i).1.length
  ·have e3:bfs (mlets gs) N (i+1)=bfRow (mlets gs) (bfs (mlets gs) N i) i:=by
    show (if i<(bfs (mlets gs) N i).1.length then bfRow (mlets gs) (bfs (mlets gs) N i) i else bfs (mlets gs) N i)=_;rw [if_pos h]
   have h':i<(bfs (mlets gs) N i).2.length:=by rw [hb.ln]; exact h
   obtain ⟨p,hp⟩:∃ p,(Zp (bfs (mlets gs) N i))[i]?=some p:=⟨((bfs (mlets gs) N i).1[i],(bfs (mlets gs) N i).2[i]),by unfold Zp; rw [List.getElem?_zip_eq_some]; exact ⟨List.getElem?_eq_getElem h,List.getElem?_eq_getElem h'⟩⟩;have hpm:p∈Zp (bfs (mlets gs) N i):=List.mem_of_getElem? hp;have hp2:=List.getElem?_zip_eq_some.1 hp;obtain ⟨ho,he⟩:=h1 p hpm
   have e1:(bfs (mlets gs) N i).1.getD i []=p.1:=by rw [List.getD_eq_getElem?_getD,hp2.1]; rfl
   have e2:(bfs (mlets gs) N i).2.getD i []=p.2:=by rw [List.getD_eq_getElem?_getD,hp2.2]; rfl
   obtain ⟨r0,r1,r2,r3,r4,r5⟩:=row_words (x:=p.1) ho he (mlets gs) _ (fun _=>id) (mlets_rk gs) hb.ln h1 h2 fun q hq y _=>h3 p hp q hq y.2
   have ext:Zp (bfs (mlets gs) N i) <+: Zp (bfs (mlets gs) N (i+1)):=by
    obtain ⟨⟨s,hs⟩,⟨t,ht⟩⟩:=bfs_step_ext (mlets gs) N i;unfold Zp;rw [← hs,← ht,List.zip_append hb.ln.symm];exact ⟨_,rfl⟩
   have hI:i<(Zp (bfs (mlets gs) N i)).length:=(List.getElem?_eq_some_iff.1 hp).1
   have old:∀ j q,j≤i→(Zp (bfs (mlets gs) N (i+1)))[j]?=some q→(Zp (bfs (mlets gs) N i))[j]?=some q:=fun j q hj hq=>by
    obtain ⟨t,ht⟩:=ext;rw [← ht,List.getElem?_append_left (by omega)] at hq;exact hq
   have e4:bfRow (mlets gs) (bfs (mlets gs) N i) i=(mlets gs).foldl (bfStep p.1 p.2) (bfs (mlets gs) N i):=by unfold bfRow; rw [e1,e2]
   rw [← e4,← e3] at r0 r1 r2 r3 r4 r5;refine ⟨r1,r2,fun p' hp' q hq a=>?_,fun j q hj hq y hy=>?_⟩
   ·have hlt:SL p.2 p'.2:=by
     have hi1:=(List.getElem?_eq_some_iff.1 hp').1;have:=List.pairwise_iff_getElem.1 r2 i (i+1) (by omega) hi1 (by omega);rw [(List.getElem?_eq_some_iff.1 hp').2] at this
     have e5:(Zp (bfs (mlets gs) N (i+1)))[i]'(by omega)=p:=by
      have e6:=old i _ (Nat.le_refl _) (List.getElem?_eq_getElem (by omega:i<(Zp (bfs (mlets gs) N (i+1))).length));rw [hp] at e6;exact (Option.some.inj e6).symm
     rw [e5] at this;exact this
    rcases r4 q hq with hq | ⟨b,hq⟩
    ·exact (h3 p hp q hq a).trans (hlt.snoc a a)
    ·rw [hq]; exact hlt.snoc b a
   ·have hq2:=old j q (by omega) hq
    by_cases ej:j=i
    ·subst ej
     rw [hp] at hq2;obtain rfl:=Option.some.inj hq2;exact r5 y hy
    ·obtain ⟨u,hu,hle⟩:=h4 j q (by omega) hq2 y hy
     exact ⟨u,r3 _ hu,hle⟩
  ·have e3:bfs (mlets gs) N (i+1)=bfs (mlets gs) N i:=by
    show (if i<(bfs (mlets gs) N i).1.length then bfRow (mlets gs) (bfs (mlets gs) N i) i else bfs (mlets gs) N i)=_;rw [if_neg h]
   have hz:(Zp (bfs (mlets gs) N i)).length≤i:=by unfold Zp; simp; omega
   rw [e3];refine ⟨h1,h2,fun p hp=>?_,fun j p hj hp=>?_⟩
   ·have:=(List.getElem?_eq_some_iff.1 hp).1; omega
   ·have:=(List.getElem?_eq_some_iff.1 hp).1
    exact h4 j p (by omega) hp
structure WdT (N:Nat) (gs:List (List Nat)) (st:BSt):Prop where
 gd:∀ s∈gs,Gd N s
 bi:BI N st
 inn:∀ x∈st.1,okW gs.length (wdOf st x)∧evN N gs (wdOf st x)=x
 one:Ma.oneN N∈st.1∧wdOf st (Ma.oneN N)=[]
 next:∀ x∈st.1,∀ y∈mlets gs,Ma.mulN x y.1∈st.1∧SLe (wdOf st (Ma.mulN x y.1)) (wdOf st x++[y.2])
theorem wd_at {st:BSt} (hb:BI N st) {x:List Nat} {u:List Int} (h:(x,u)∈Zp st):x∈st.1∧wdOf st x=u:=by
 obtain ⟨i,hi⟩:=List.mem_iff_getElem?.1 h;obtain ⟨h1,h2⟩:=List.getElem?_zip_eq_some.1 hi;obtain ⟨hi1,rfl⟩:=List.getElem?_eq_some_iff.1 h1;refine ⟨List.getElem_mem _,?_⟩;unfold wdOf;rw [hb.nd.idxOf_getElem,List.getD_eq_getElem?_getD,h2]; rfl
theorem at_wd {st:BSt} (hb:BI N st) {x:List Nat} (h:x∈st.1):(x,wdOf st x)∈Zp st:=by
 obtain ⟨u,hu⟩:=Zp.mem hb.ln h;have:=(wd_at hb hu).2;rw [this]; exact hu
theorem BfE.words (hg:∀ s∈gs,Gd N s) {st:BSt} (h:BfE (mlets gs) N st):WdT N gs st:=by
 obtain ⟨i,rfl,hi⟩:=h;have hb:=bfs_BI (N:=N) (mlets_gd hg) i;obtain ⟨h1,h2,-,h4⟩:=bfs_words hg i;refine ⟨hg,hb,fun x hx=>h1 _ (at_wd hb hx),?_,fun x hx y hy=>?_⟩
 ·refine wd_at hb ?_
  have:∀ j,(Ma.oneN N,([]:List Int))∈Zp (bfs (mlets gs) N j):=fun j=>by
   induction j with
   | zero=>exact List.mem_singleton.2 rfl
   | succ j ih =>
    obtain ⟨⟨s,hs⟩,⟨t,ht⟩⟩:=bfs_step_ext (mlets gs) N j;have hbj:=bfs_BI (N:=N) (mlets_gd hg) j;unfold Zp at ih ⊢;rw [← hs,← ht,List.zip_append hbj.ln.symm];exact List.mem_append_left _ ih
  exact this i
 ·obtain ⟨j,hj⟩:=List.mem_iff_getElem?.1 (at_wd hb hx)
  have hjl:j<i:=by
   have:=(List.getElem?_eq_some_iff.1 (List.getElem?_zip_eq_some.1 hj).1).1;omega
  obtain ⟨u,hu,hle⟩:=h4 j _ hjl hj y hy;obtain ⟨q1,q2⟩:=wd_at hb hu;exact ⟨q1,by rw [q2]; exact hle⟩
theorem WdT.least {st:BSt} (h:WdT N gs st) {v:List Int} (hv:okW gs.length v):evN N gs v∈st.1∧SLe (wdOf st (evN N gs v)) v:=by
 obtain ⟨n,hn⟩:∃ n,v.length=n:=⟨_,rfl⟩
 induction n generalizing v with
 | zero =>
  obtain rfl:=List.length_eq_zero_iff.1 hn;exact ⟨h.one.1,.inl h.one.2⟩
 | succ n ih =>
  have hne:v≠[]:=fun e=>by rw [e] at hn; simp at hn
  obtain ⟨u,a,rfl⟩:∃ l s,v=l++[s]:=⟨v.dropLast,v.getLast hne,(List.dropLast_concat_getLast hne).symm⟩
  have hu:u.length=n:=by simpa using hn
  obtain ⟨i1,i2⟩:=ih (fun x hx=>hv x (List.mem_append_left _ hx)) hu;have ha:=hv a (List.mem_append_right _ (List.mem_singleton.2 rfl));obtain ⟨j1,j2⟩:=h.next _ i1 _ (lt_mlets ha);rw [ev_snoc];exact ⟨j1,j2.trans (i2.app [a])⟩
theorem evf_mul (hg:∀ s∈gs,Gd N s):∀ {v:List Int} {p:List Nat},okW gs.length v→Gd N p→v.foldl (fun p x=>Ma.mulN p (ltV gs x)) p=Ma.mulN p (evN N gs v):=by
 intro v;obtain ⟨n,hn⟩:∃ n,v.length=n:=⟨_,rfl⟩
 induction n generalizing v with
 | zero =>
  intro p _ hp;obtain rfl:=List.length_eq_zero_iff.1 hn;exact (Cm.mul_one hp).symm
 | succ n ih =>
  intro p hv hp
  have hne:v≠[]:=fun e=>by rw [e] at hn; simp at hn
  obtain ⟨u,a,rfl⟩:∃ l s,v=l++[s]:=⟨v.dropLast,v.getLast hne,(List.dropLast_concat_getLast hne).symm⟩
  have hu:u.length=n:=by simpa using hn
  have ho:okW gs.length u:=fun x hx=>hv x (List.mem_append_left _ hx);have ha:=hv a (List.mem_append_right _ (List.mem_singleton.2 rfl));rw [ev_snoc,List.foldl_append,ih hu ho hp];exact Cm.mul_assoc hp (evf_gd hg ho (Cm.gd_one N))
theorem ev_gd (hg:∀ s∈gs,Gd N s) {v:List Int} (hv:okW gs.length v):Gd N (evN N gs v):=evf_gd hg hv (Cm.gd_one N)
theorem ev_app (hg:∀ s∈gs,Gd N s) {u v:List Int} (hu:okW gs.length u) (hv:okW gs.length v):evN N gs (u++v)=Ma.mulN (evN N gs u) (evN N gs v):=by
 show (u++v).foldl _ _=_;rw [List.foldl_append];exact evf_mul hg hv (ev_gd hg hu)
theorem WdT.piece {st:BSt} (h:WdT N gs st) {x:List Nat} (hx:x∈st.1) {p m s:List Int} (e:wdOf st x=p++m++s):evN N gs m∈st.1∧wdOf st (evN N gs m)=m:=by
 obtain ⟨ho,he⟩:=h.inn x hx;rw [e] at ho he;have hp:okW gs.length p:=fun z hz=>ho z (by simp [hz]);have hm:okW gs.length m:=fun z hz=>ho z (by simp [hz]);have hs:okW gs.length s:=fun z hz=>ho z (by simp [hz]);obtain ⟨q1,q2⟩:=h.least hm;refine ⟨q1,?_⟩
 rcases q2 with q2 | q2
 ·exact q2
 ·exfalso
  obtain ⟨r1,r2⟩:=h.inn _ q1
  have e2:evN N gs (p++wdOf st (evN N gs m)++s)=x:=by
   rw [← he,ev_app h.gd (hp.app r1) hs,ev_app h.gd hp r1,r2,ev_app h.gd (hp.app hm) hs,ev_app h.gd hp hm]
  obtain ⟨_,q3⟩:=h.least ((hp.app r1).app hs);rw [e2,e] at q3;have q4:SL (p++wdOf st (evN N gs m)++s) (p++m++s):=(q2.pre p).app s
  rcases q3 with q3 | q3
  ·rw [← q3] at q4; exact q4.irr
  ·exact (q3.trans q4).irr
theorem ltV_opp (hg:∀ s∈gs,Gd N s) {a:Int} (h:a≠0∧a≤(gs.length:Int)∧-(gs.length:Int)≤a):ltV gs (-a)=Ma.invN (ltV gs a):=by
 by_cases h0:a<0
 ·obtain ⟨k,rfl⟩:∃ k:Nat,a = -((k:Nat):Int) - 1:=⟨(-a - 1).toNat,by omega⟩
  have hk:k<gs.length:=by omega
  rw [show -(-((k:Nat):Int) - 1)=((k:Nat):Int)+1 by omega,ltV_neg hk,ltV_pos hk,inv_twice (hg _ (List.getElem_mem _))]
 ·obtain ⟨k,rfl⟩:∃ k:Nat,a=((k:Nat):Int)+1:=⟨(a - 1).toNat,by omega⟩
  have hk:k<gs.length:=by omega
  rw [show -(((k:Nat):Int)+1) = -((k:Nat):Int) - 1 by omega,ltV_neg hk,ltV_pos hk]
theorem WdT.reduced {st:BSt} (h:WdT N gs st) {x:List Nat} (hx:x∈st.1) (hk:k+1<(wdOf st x).length):(wdOf st x)[k+1]≠-(wdOf st x)[k]:=by
 intro ha;obtain ⟨u,hu⟩:∃ u,wdOf st x=u:=⟨_,rfl⟩;simp only [hu] at ha hk
 have e:u=u.take k++[u[k],-u[k]]++u.drop (k+2):=by
  conv=>lhs; rw [← List.take_append_drop k u,List.drop_eq_getElem_cons (show k<u.length by omega),List.drop_eq_getElem_cons hk,ha]
  simp
 have e1:wdOf st x=u.take k++[u[k],-u[k]]++u.drop (k+2):=hu.trans e;have ho:=(h.inn x hx).1;rw [hu] at ho;have hok:=ho _ (List.getElem_mem (show k<u.length by omega));obtain ⟨q1,q2⟩:=h.piece hx e1
 have e3:evN N gs [u[k],-u[k]]=Ma.oneN N:=by
  show Ma.mulN (Ma.mulN (Ma.oneN N) (ltV gs u[k])) (ltV gs (-u[k]))=_;have g1:=ltV_gd h.gd hok;rw [ltV_opp h.gd hok,Cm.one_mul g1,Cm.mul_inv g1]
 rw [e3,h.one.2] at q2;exact absurd q2 (by simp)
theorem WdT.step {st:BSt} (h:WdT N gs st) {x:List Nat} (hx:x∈st.1) (hj:j<gs.length):Ma.mulN x gs[j]∈st.1∧(wdOf st (Ma.mulN x gs[j])).length≤(wdOf st x).length+1∧(wdOf st x).length≤(wdOf st (Ma.mulN x gs[j])).length+1:=by
 have m1:(gs[j],(j:Int)+1)∈mlets gs:=(mlets_iff _ gs rfl _).2 ⟨j,gs[j],List.getElem?_eq_getElem hj,.inl rfl⟩;have m2:(Ma.invN gs[j],-(j:Int) - 1)∈mlets gs:=(mlets_iff _ gs rfl _).2 ⟨j,gs[j],List.getElem?_eq_getElem hj,.inr rfl⟩;obtain ⟨a1,a2⟩:=h.next x hx _ m1;obtain ⟨b1,b2⟩:=h.next _ a1 _ m2;have gx:=h.bi.gd x hx;have gj:=h.gd _ (List.getElem_mem hj)
 have e:Ma.mulN (Ma.mulN x gs[j]) (Ma.invN gs[j])=x:=by rw [Cm.mul_assoc gx gj,Cm.mul_inv gj,Cm.mul_one gx]
 rw [e] at b2;have c1:=a2.len;have c2:=b2.len;simp at c1 c2;exact ⟨a1,c1,c2⟩
end Go.Proofs.YtdnmmibchbceeaaGreat

namespace Go.Proofs.YtdnmmibchbceeaaGreat
open Go.RowKit
open Go.Proofs
open Go.Proofs.Ob
open Go.Proofs.Cm (Gd Gr IsChain)
attribute [local irreducible] Go.Calls Go.wpList
theorem Index_at (lv xv:Value) (L:List (List Int)) (x:List Int) (w:World) (h:Rg.Rows w lv L) (hx:Rg.Ints w xv x) (hs:Asc L) (hL:L.length<1000000) (hm:x∈L) :
  Calls Tryz.prog 33 #[lv,xv] w fun e w'=>∃ (r:Nat) (hr:r<L.length),e=.returned (.int .i64 r)∧L[r]=x∧Below w.heap.size w w':=by
 have hp:=ι (place_any lv xv L x w h hx hs hL);have HS:=ι hs;have HM:=ι hm;have HD:=ι (decide_eq_true hm);clear h hx hs hm
 go_enter Tryz.func33,Tryz.ntmps33
 go_wp2_with (go_at_call 72; refine hp.out.mono ?_; rintro e w' ⟨lo,rfl,hP,hb⟩; rw [HD.out])
 go_ret;obtain ⟨q1,q2⟩:=(hP.mem HS.out).1 HM.out;exact ⟨lo,q1,rfl,q2,hb⟩
structure C4 (W:World) (b1 o1 b2 o2 b3 o3 b4 o4:Nat) (v1 v2 v3 v4:Value):Prop where
 c1:W.cell? ⟨b1,o1,none⟩=some v1
 c2:W.cell? ⟨b2,o2,none⟩=some v2
 c3:W.cell? ⟨b3,o3,none⟩=some v3
 c4:W.cell? ⟨b4,o4,none⟩=some v4
theorem cell_below {b o:Nat} (h:W.cell? ⟨b,o,none⟩=some u) (hb:Below W.heap.size W X):X.cell? ⟨b,o,none⟩=some u:=(Below.cell (p:=⟨b,o,none⟩) hb (lt_of_cell h)).trans h
theorem C4.below {b1 o1 b2 o2 b3 o3 b4 o4:Nat} {v3 v4:Value} (h:C4 W b1 o1 b2 o2 b3 o3 b4 o4 v1 v2 v3 v4) (hb:Below W.heap.size W X):C4 X b1 o1 b2 o2 b3 o3 b4 o4 v1 v2 v3 v4 :=
 ⟨cell_below h.c1 hb,cell_below h.c2 hb,cell_below h.c3 hb,cell_below h.c4 hb⟩
theorem C4.kp {b1 o1 b2 o2 b3 o3 b4 o4:Nat} {v3 v4:Value} (h:C4 W b1 o1 b2 o2 b3 o3 b4 o4 v1 v2 v3 v4) (hk:Rg.Kp M W X) (n1:¬ M b1) (n2:¬ M b2) (n3:¬ M b3) (n4:¬ M b4):C4 X b1 o1 b2 o2 b3 o3 b4 o4 v1 v2 v3 v4 :=
 ⟨cell_kp h.c1 hk n1,cell_kp h.c2 hk n2,cell_kp h.c3 hk n3,cell_kp h.c4 hk n4⟩
theorem ElI.swap (h:ElI w W F av tv A T):ElI w W F tv (.slice none 0 0) T [] :=
 ⟨h.bel,h.rt,RowH.nil _ _ _ _ h.ra.size,fun k _ e=>by simp [Value.ownBlock] at e,h.Flt⟩
theorem ElI.mono {w0:World} (h:ElI w W F av tv A T):∀ k,av.ownBlock=some k→w.heap.size≤k:=fun k e=>(h.ra.lt k e).1
end Go.Proofs.YtdnmmibchbceeaaGreat
