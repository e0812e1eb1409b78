/- Lemmas and contracts on the way to the statement; no condition of their own beyond those written. -/
import Derived.Test.YtpedbljnhnoohaaGreatXEetoUr
set_option linter.unusedVariables false
set_option linter.unusedSimpArgs false
set_option maxRecDepth 100000
set_option maxHeartbeats 8000000
variable {w W w' W' w0 X:Go.World} {n B N L j D tc base n₀ cap bytes tk:Nat} {v rv ov u xv v1 v2 u1 u2 yv tv:Go.Value} {F M F' Fk:Nat->Prop} {O gs A O':List (List Nat)} {R R':List (List (List Nat))} {ll OO dK PS:List (List Int)} {RR dL:List (List (List Int))} {H:List Nat->Prop} {d ck:Int} {q:List Nat} {xs:List Go.Value} {xl:List Int}
namespace Go.Proofs.YtpedbljnhnoohaaGreat
open Go.Proofs
section
open Go.RowKit
open Go.Proofs.Ob
open Go.Proofs.Cm (Gd Gr ak ap lexLt cj St)
attribute [local go_sem] Oper.semAt_some
attribute [local irreducible] Go.Calls Go.wpList Go.wpListIn
theorem o6 (args:Array Value) (w:World):(callFunc 42 args).run Tryz.prog w=.ok (.enter 42 args) w:=by kernel_rfl
def qJ (b8 b9:Nat) (v:Value) (z:Nat):Prop:=z=b8∨z=b9∨v.ownBlock=some z
structure kR (N b8 b9:Nat) (gs:List (List Nat)) (v u8 ov rv:Value) (W:World):Prop where
 row:cO b9 (fun z=>z<W.heap.size/\¬ qJ b8 b9 v z) (fun z=>z=b8∨z=b9) W v gs
 c8:CW W b8 u8
 c9:bM W b9 (.int .i64 ((N:Nat):Int)) ov rv
 ne:b8<b9
structure we (N b8 b9:Nat) (gs:List (List Nat)) (v ov rv:Value) (O:List (List Nat)) (R:List (List (List Nat))) (W:World):Prop where
 o:Rg.aG (fun z=>b8<=z/\z<W.heap.size/\¬ qJ b8 b9 v z) W ov (O.map Ma.af)
 r:bg (fun z=>b8<=z/\z<W.heap.size/\¬ qJ b8 b9 v z) W rv (R.map (List.map Ma.af))
 ch:ak N (Gr N (·∈gs)) O R
theorem cO.zG {l:List (List Nat)} (h:cO B F M W v l) (hF:∀ k,F k->F' k) (ho:∀ k,v.ownBlock=some k->¬ F' k):cO B F' M W v l:=by
 obtain ⟨us,h1,h2⟩:=h.own;exact ⟨h.size,⟨us,h1,h2.mono hF⟩,fun k e=>⟨ho k e,(h.off k e).2⟩⟩
theorem cO.same {B:Nat} {F M:Nat->Prop} {W W':World} {v:Value} {l:List (List Nat)} (h:cO B F M W v l) (hs:RF.jP W W'):cO B F M W' v l:=by
 obtain ⟨us,⟨h0,h1⟩,h2,h3⟩:=h.own;refine ⟨Nat.le_trans h.size hs.size,⟨us,⟨h0,?_⟩,h2,fun i a b=>FI.same (h3 i a b) hs⟩,h.off⟩
 rcases h1 with h1 | ⟨g,cap,cur,e1,e2,e3,e4⟩
 ·exact .inl h1
 ·exact .inr ⟨g,cap,cur,e1,e2,hs.blk _ _ _ _ e3,e4⟩
theorem uC (h:Rg.aG F W v ll) (hc:∀ a,W'.cell? a=W.cell? a) (hs:W.heap.size<=W'.heap.size):Rg.aG F W' v ll:=by
 obtain ⟨us,h1,h2,h3⟩:=h;exact ⟨us,eZ hc hs h1,h2,fun i a b=>eZ hc hs (h3 i a b)⟩
theorem AZ {ll:List (List (List Int))} (h:bg F W v ll) (hc:∀ a,W'.cell? a=W.cell? a) (hs:W.heap.size<=W'.heap.size):bg F W' v ll:=by
 obtain ⟨us,h1,h2,h3⟩:=h;exact ⟨us,eZ hc hs h1,h2,fun i a b=>uC (h3 i a b) hc hs⟩
theorem mi {b8 b9 z:Nat} (h:qJ b8 b9 (.slice none 0 0) z):z=b8∨z=b9:=by
 rcases h with h | h | h
 ·exact .inl h
 ·exact .inr h
 ·simp [Value.ownBlock] at h
theorem eN (W:World) (b:Nat) (x y z:Value):Rg.Kp (fun k=>k=b) W (((W.setCell ⟨b,0,none⟩ x).setCell ⟨b,1,none⟩ y).setCell ⟨b,2,none⟩ z):=by
 have k1:Rg.Kp (fun k=>k=b) W (W.setCell ⟨b,0,none⟩ x):=Rg.Kp.aO rfl;have k2:Rg.Kp (fun k=>k=b) (W.setCell ⟨b,0,none⟩ x) ((W.setCell ⟨b,0,none⟩ x).setCell ⟨b,1,none⟩ y):=Rg.Kp.aO rfl;have k3:Rg.Kp (fun k=>k=b) ((W.setCell ⟨b,0,none⟩ x).setCell ⟨b,1,none⟩ y) (((W.setCell ⟨b,0,none⟩ x).setCell ⟨b,1,none⟩ y).setCell ⟨b,2,none⟩ z):=Rg.Kp.aO rfl;exact (k1.trans k2 (fun _ _ h=>h)).trans k3 (fun _ _ h=>h)
structure Nu (w0 W:World):Prop where
 h:Below w0.heap.size w0 W
theorem Nu.jj (h:Nu w0 W) (hb:Below W.heap.size W W'):Nu w0 W':=⟨Rg.acc h.h hb⟩
theorem kS (h:Rg.aG F W v ll) (hs:RF.jP W W'):Rg.aG F W' v ll:=by
 obtain ⟨us,h1,h2,h3⟩:=h;exact ⟨us,eZ hs.cell hs.size h1,h2,fun i a b=>FI.same (h3 i a b) hs⟩
theorem o7 {ll:List (List (List Int))} (h:bg F W v ll) (hs:RF.jP W W'):bg F W' v ll:=by
 obtain ⟨us,h1,h2,h3⟩:=h;exact ⟨us,eZ hs.cell hs.size h1,h2,fun i a b=>kS (h3 i a b) hs⟩
theorem bM.same {b:Nat} {x y z:Value} (h:bM W b x y z) (hs:RF.jP W W'):bM W' b x y z :=
 ⟨(hs.cell _).trans h.c0,(hs.cell _).trans h.c1,(hs.cell _).trans h.c2,(hs.frozen _).trans h.f0,(hs.frozen _).trans h.f1,(hs.frozen _).trans h.f2,Nat.lt_of_lt_of_le h.lt hs.size⟩
section
variable {N b8 b9:Nat} {gs:List (List Nat)} {v u8 ov rv:Value} {O:List (List Nat)} {R:List (List (List Nat))} {W W':World}
theorem kR.kp (h:kR N b8 b9 gs v u8 ov rv W) {C:Nat->Prop} (hk:Rg.Kp C W W') (hC:∀ z,z<W.heap.size->¬ C z):kR N b8 b9 gs v u8 ov rv W' :=
 ⟨(h.row.kp hk (fun z hz=>hC z hz.1) (fun z hz=>hC z (h.row.lt z hz).2)).zG (fun z hz=>⟨Nat.lt_of_lt_of_le hz.1 hk.size,hz.2⟩) (fun z e hz=>hz.2 (.inr (.inr e))),h.c8.kp hk (hC _ h.c8.lt),h.c9.kp hk (hC _ h.c9.lt),h.ne⟩
theorem kR.jj (h:kR N b8 b9 gs v u8 ov rv W) (hb:Below W.heap.size W W'):kR N b8 b9 gs v u8 ov rv W':=h.kp (C:=fun _=>False) (Rg.Kp.aC hb) (fun _ _=>id)
theorem kR.same (h:kR N b8 b9 gs v u8 ov rv W) (hs:RF.jP W W'):kR N b8 b9 gs v u8 ov rv W' :=
 ⟨(h.row.same hs).zG (fun z hz=>⟨Nat.lt_of_lt_of_le hz.1 hs.size,hz.2⟩) (fun z e hz=>hz.2 (.inr (.inr e))),h.c8.same hs,h.c9.same hs,h.ne⟩
theorem we.jj (h:we N b8 b9 gs v ov rv O R W) (hb:Below W.heap.size W W'):we N b8 b9 gs v ov rv O R W' :=
 ⟨(h.o.kp (M:=fun _=>False) (Rg.Kp.aC hb) (fun _ _=>id)).mono (fun z hz=>⟨hz.1,Nat.lt_of_lt_of_le hz.2.1 hb.size,hz.2.2⟩),bg.mono (h.r.kp (M:=fun _=>False) (Rg.Kp.aC hb) (fun _ _=>id)) (fun z hz=>⟨hz.1,Nat.lt_of_lt_of_le hz.2.1 hb.size,hz.2.2⟩),h.ch⟩
theorem we.same (h:we N b8 b9 gs v ov rv O R W) (hs:RF.jP W W'):we N b8 b9 gs v ov rv O R W' :=
 ⟨(kS h.o hs).mono (fun z hz=>⟨hz.1,Nat.lt_of_lt_of_le hz.2.1 hs.size,hz.2.2⟩),bg.mono (o7 h.r hs) (fun z hz=>⟨hz.1,Nat.lt_of_lt_of_le hz.2.1 hs.size,hz.2.2⟩),h.ch⟩
theorem kR.sl (h:kR N b8 b9 gs v u8 ov rv W):∃ a c,v=.slice a gs.length c:=h.row.shape
theorem we.ce (h:we N b8 b9 gs v ov rv O R W):aW W ov rv (O.map Ma.af) (R.map (List.map Ma.af)):=⟨aG.rows h.o,bg.rows h.r⟩
theorem kR.push (h:kR N b8 b9 gs v u8 ov rv W) {u:Value} {q:List Nat} (hu:Rg.FI (fun z=>¬ qJ b8 b9 v z) W u (Ma.af q)) (hs:∃ a m c,u=.slice a m c) (hn:gs.length<1000000) (ty:TypeId) :
  ∃ a c X,(Builtin.append_ #[41,41] ty #[v,.slice (some ⟨W.heap.size,0,none⟩) 1 1]).run Tryz.prog (W.alloc (.cells #[u] 27))=.ok (.slice a (gs.length+1) c) X/\kR N b8 b9 (gs++[q]) (.slice a (gs.length+1) c) u8 ov rv X/\Rg.Kp (qJ b8 b9 v) W X/\(∀ z,qJ b8 b9 (.slice a (gs.length+1) c) z->qJ b8 b9 v z∨W.heap.size<=z):=by
 obtain ⟨a,c,X,r1,r2,r3⟩:=h.row.push (u:=u) (x:=q) ((vX hu).mono fun z hz=>⟨hz.2,hz.1⟩) hs (fun z hz=>hz.1) (fun z hz=>by rcases hz with rfl | rfl <;> first | exact h.c8.lt | exact h.c9.lt) hn ty
 have hv8:¬ v.ownBlock=some b8:=fun e=>(h.row.off _ e).2 (.inl rfl);have hv9:¬ v.ownBlock=some b9:=fun e=>(h.row.off _ e).2 (.inr rfl);have TV:=r2.off;refine ⟨a,c,X,r1,⟨r2.zG (fun z hz=>⟨Nat.lt_of_lt_of_le hz.1 r3.size,fun hc=>?_⟩) (fun z e hz=>hz.2 (.inr (.inr e))),h.c8.kp r3 hv8,h.c9.kp r3 hv9,h.ne⟩,r3.kF fun z e=>.inr (.inr e),fun z hz=>?_⟩
 ·rcases hc with hc | hc | hc
  ·exact hz.2 (.inl hc)
  ·exact hz.2 (.inr (.inl hc))
  ·exact (TV z hc).1 hz
 ·rcases hz with hz | hz | hz
  ·exact .inl (.inl hz)
  ·exact .inl (.inr (.inl hz))
  ·by_cases e:v.ownBlock=some z
   ·exact .inl (.inr (.inr e))
   ·refine .inr (Nat.not_lt.1 fun aB=>(TV z hz).1 ⟨aB,?_⟩)
    rintro (g | g | g)
    ·exact (TV z hz).2 (.inl g)
    ·exact (TV z hz).2 (.inr g)
    ·exact e g
theorem kR.aas (h:kR N b8 b9 gs v u8 ov rv W) (u:Value):kR N b8 b9 gs v u ov rv (W.setCell ⟨b8,0,none⟩ u) :=
 have hk:Rg.Kp (fun z=>z=b8) W (W.setCell ⟨b8,0,none⟩ u):=Rg.Kp.aO rfl;have hne:=h.ne
 ⟨(h.row.kp hk (fun z hz e=>hz.2 (.inl e)) (fun z e e2=>(h.row.off z e).2 (.inl e2))).zG (fun z hz=>⟨Nat.lt_of_lt_of_le hz.1 hk.size,hz.2⟩) (fun z e hz=>hz.2 (.inr (.inr e))),h.c8.set u,h.c9.kp hk (by omega),hne⟩
theorem kR.aat (h:kR N b8 b9 gs v u8 ov rv W) (y z:Value):kR N b8 b9 gs v u8 y z (((W.setCell ⟨b9,0,none⟩ (.int .i64 ((N:Nat):Int))).setCell ⟨b9,1,none⟩ y).setCell ⟨b9,2,none⟩ z)/\Rg.Kp (fun z=>z=b9) W (((W.setCell ⟨b9,0,none⟩ (.int .i64 ((N:Nat):Int))).setCell ⟨b9,1,none⟩ y).setCell ⟨b9,2,none⟩ z) :=
 have hk:=eN W b9 (.int .i64 ((N:Nat):Int)) y z;have hne:=h.ne
 ⟨⟨(h.row.kp hk (fun z hz e=>hz.2 (.inr (.inl e))) (fun z e e2=>(h.row.off z e).2 (.inr e2))).zG (fun z hz=>⟨Nat.lt_of_lt_of_le hz.1 hk.size,hz.2⟩) (fun z e hz=>hz.2 (.inr (.inr e))),h.c8.kp hk (by omega),h.c9.set _ _ _,hne⟩,hk⟩
theorem we.mk9 (hM:∀ z,qJ b8 b9 v z->z<B) (h8:b8<=B) {W1:World} (ho:Rg.aG (fun z=>B<=z/\z<W.heap.size) W ov (O.map Ma.af)) (hr:bg (fun z=>B<=z/\z<W.heap.size) W rv (R.map (List.map Ma.af))) (hc:ak N (Gr N (·∈gs)) O R) (hk:Rg.Kp (fun z=>z=b9) W W1):we N b8 b9 gs v ov rv O R W1 :=
 have h9:=hM b9 (.inr (.inl rfl))
 ⟨(ho.kp hk (fun z hz e=>by omega)).mono fun z hz=>⟨by omega,Nat.lt_of_lt_of_le hz.2 hk.size,fun hC=>by have:=hM z hC; omega⟩,bg.mono (hr.kp hk (fun z hz e=>by omega)) fun z hz=>⟨by omega,Nat.lt_of_lt_of_le hz.2 hk.size,fun hC=>by have:=hM z hC; omega⟩,hc⟩
theorem kR.lt (h:kR N b8 b9 gs v u8 ov rv W):∀ z,qJ b8 b9 v z->z<W.heap.size:=fun z hz=>by
 rcases hz with rfl | rfl | e
 ·exact h.c8.lt
 ·exact h.c9.lt
 ·exact (h.row.lt z e).2
theorem kR.ge (h:kR N b8 b9 gs v u8 ov rv W) (h8:B<=b8):∀ z,qJ b8 b9 v z->B<=z:=fun z hz=>by
 have:=h.ne
 rcases hz with rfl | rfl | e
 ·omega
 ·omega
 ·have:=(h.row.lt z e).1; omega
end
theorem Lj {b:Nat} {x y z:Value} (h:bM W b x y z) (hc:∀ a,W'.cell? a=W.cell? a) (hf:∀ a,W'.frozen? a=W.frozen? a) (hs:W.heap.size<=W'.heap.size):bM W' b x y z :=
 ⟨(hc _).trans h.c0,(hc _).trans h.c1,(hc _).trans h.c2,(hf _).trans h.f0,(hf _).trans h.f1,(hf _).trans h.f2,Nat.lt_of_lt_of_le h.lt hs⟩
theorem QU {c:gS} (h:AY c N O R) (h0:uz c=0):(gQ N O R).length<=5040:=by
 obtain ⟨e1,_,_,e2,_⟩:=h;unfold uz at h0;rw [e1,e2,kO,Int.toNat_natCast] at h0;unfold gQ;rw [List.length_map,List.length_range]
 by_cases h:cn O N N<=5040
 ·exact h
 ·rw [if_neg h] at h0; exact absurd h0 (by decide)
structure QtI (N:Nat) (LL:List (List Nat)) (Pb:List Nat->Bool) (Fk:Nat->Prop) (A:World->Prop) (Bt B4 b7 b8 b9 B0:Nat) (tv:Value) (t:Nat) (C:Nat->Prop) (W:World):Prop where
 a:lL N tv Pb Fk A W
 ct:CL W Bt 0 tv
 c7:CL W b7 0 (.int .i64 ((N:Nat):Int))
 c4:bM W B4 (.int .i64 0) (.slice none 0 0) (.slice none 0 0)
 TW:∀ z,C z->z<B0∨B0+2<=z
 x:∃ (v:Value) (gs:List (List Nat)) (oa:Option Addr) (on oc:Nat) (ra:Option Addr) (rn rc:Nat) (O:List (List Nat)) (R:List (List (List Nat))),C=qJ b8 b9 v/\uB N LL Pb t gs/\kR N b8 b9 gs v v (.slice oa on oc) (.slice ra rn rc) W/\we N b8 b9 gs v (.slice oa on oc) (.slice ra rn rc) O R W
def aau (N:Nat) (LL:List (List Nat)) (Pb:List Nat->Bool) (w:World) (e:Ending) (w':World):Prop :=
 ∃ (gs:List (List Nat)) (oa:Option Addr) (on oc:Nat) (ra:Option Addr) (rn rc:Nat) (O:List (List Nat)) (R:List (List (List Nat))),e=.returned (.tuple #[.agg #[.int .i64 ((N:Nat):Int),.slice oa on oc,.slice ra rn rc],.int .i64 0])/\Rg.aG (fun z=>w.heap.size<=z) w' (.slice oa on oc) (O.map Ma.af)/\bg (fun z=>w.heap.size<=z) w' (.slice ra rn rc) (R.map (List.map Ma.af))/\ak N (Gr N (·∈gs)) O R/\(∀ s∈gs,s∈LL/\Pb s=true)/\∀ x,x∈LL->Pb x=true->Gr N (·∈gs) x
def iM (ck:Int) (c0:gS) (Pb:List Nat->Bool) (w:World) (e:Ending) (w':World):Prop:=Below w.heap.size w w' /\
 ((ck≠0/\e=.returned (.tuple #[.agg #[.int .i64 0,.slice none 0 0,.slice none 0 0],.int .i64 ck]))∨(ck=0/\∃ N O R,AY c0 N O R/\aau N (gQ N O R) Pb w e w'))
theorem kT {b cc:Nat} {CS:List gS} {GP GW G1:Value} {SS TS:List (List Int)} (hC:n_ b CS w) (h1:1<=CS.length) (lC:CS.length<=100) (hP:Rg.Rows w GP PS) (rX:PS.length<=100) (hS:Rg.Rows w GW SS) (kh:SS.length<=100) (iF:∀ s∈SS,s.length<=100) (hT:Rg.Rows w G1 TS) (C6:TS.length<=100) (v8:∀ s∈TS,s.length<=100) (hn:(CS[0]'(by omega)).1<=12)
  {ty:TypeId} {vv:Value} {Pb:List Nat->Bool} {A:World->Prop} (DM:gL (CS[0]'(by omega)).1 CS PS SS TS (CS[0]'(by omega))=0->lL (CS[0]'(by omega)).1.toNat (.iface ty vv) Pb Fk A w/\∀ z,Fk z->z<w.heap.size) :
  Calls Tryz.prog 52 #[.agg #[.slice (some ⟨b,0,none⟩) CS.length cc,GP,GW,G1],.iface ty vv] w (iM (gL (CS[0]'(by omega)).1 CS PS SS TS (CS[0]'(by omega))) (CS[0]'(by omega)) Pb w):=by
 obtain ⟨pa,pc,rfl,-⟩:=hP.shape;obtain ⟨sa,sc,rfl,-⟩:=hS.shape;obtain ⟨ta,tc,rfl,-⟩:=hT.shape;obtain ⟨ck,dY⟩:∃ z,Hid (gL (CS[0]'(by omega)).1 CS PS SS TS (CS[0]'(by omega))=z):=⟨_,U rfl⟩;rw [dY.p] at DM ⊢;obtain ⟨c0,eJ⟩:∃ c,Hid (CS[0]'(by omega)=c):=⟨_,U rfl⟩;rw [eJ.p] at DM ⊢;have QN:=U DM;have HN:=U hn;have HC:=U hC;have DN:=U hC;have RP:=U (iR.mk hP);have b_:=U (iR.mk hS);have RT:=U (iR.mk hT);have om:=U iF;have xB:=U v8;have K:=U (Below.refl w.heap.size w);have yu:w.heap.size=w.heap.size+0:=rfl;clear hC hP hS hT iF v8 hn DM;refine RF.fV Tryz.func52 rfl ?_;simp only [Tryz.ntmps52,List.size_toArray,List.length_cons,List.length_nil,Nat.reduceAdd,Nat.reduceSub,Array.replicate_succ,Array.replicate_zero,List.push_toArray,List.append_toArray,List.nil_append,List.cons_append];go_upto_region 0 with (fail)
 refine c6 ?_;have aF:=DJ w (.slice (some ⟨b,0,none⟩) CS.length cc) (.slice pa PS.length pc) (.slice sa SS.length sc) (.slice ta TS.length tc) 73
 have hs:(w.alloc (.cells #[.slice (some ⟨b,0,none⟩) CS.length cc,.slice pa PS.length pc,.slice sa SS.length sc,.slice ta TS.length tc] 73)).heap.size=w.heap.size+1:=by simp
 refine d4 2 (Rg.aY _ _ rfl rfl) ?_;go_frame;have hb:=(Below.refl w.heap.size w).alloc (Nat.le_refl _) (.cells #[.slice (some ⟨b,0,none⟩) CS.length cc,.slice pa PS.length pc,.slice sa SS.length sc,.slice ta TS.length tc] 73);generalize w.alloc (.cells #[.slice (some ⟨b,0,none⟩) CS.length cc,.slice pa PS.length pc,.slice sa SS.length sc,.slice ta TS.length tc] 73)=w1 at *;replace HC:=U (HC.p.jj hb);replace RP:=U (RP.p.jj hb);replace b_:=U (b_.p.jj hb);replace RT:=U (RT.p.jj hb);replace K:=U (Rg.acc K.p hb);clear hb;have B0:=U aF.1;have B1:=U aF.2.1;have B2:=U aF.2.2.1;have B3:=U aF.2.2.2
 have lD:w1.heap.size=w.heap.size+1:=by omega
 clear aF hs;have bX:=CW.new w1 (.iface ty vv) 110
 have hs:(w1.alloc (.cells #[.iface ty vv] 110)).heap.size=w1.heap.size+1:=by simp
 refine d4 3 (jr (v:=.iface ty vv) _ _ rfl rfl rfl) ?_;go_frame;have hb:=(Below.refl w1.heap.size w1).alloc (Nat.le_refl _) (.cells #[.iface ty vv] 110);generalize w1.alloc (.cells #[.iface ty vv] 110)=w2 at *;replace HC:=U (HC.p.jj hb);replace RP:=U (RP.p.jj hb);replace b_:=U (b_.p.jj hb);replace RT:=U (RT.p.jj hb);replace B0:=U (B0.p.jj hb);replace B1:=U (B1.p.jj hb);replace B2:=U (B2.p.jj hb);replace B3:=U (B3.p.jj hb);replace K:=U (Rg.acc K.p hb);clear hb;have BT:=U bX;rw [lD] at BT ⊢
 have iY:w2.heap.size=w.heap.size+2:=by omega
 clear bX hs;have bX:=bM.new w2 (.int .i64 0) (.slice none 0 0) (.slice none 0 0)
 have hs:(w2.alloc (.cells #[.int .i64 0,.slice none 0 0,.slice none 0 0] 25)).heap.size=w2.heap.size+1:=by simp
 refine d4 4 (aU rfl) ?_;go_frame;have hb:=(Below.refl w2.heap.size w2).alloc (Nat.le_refl _) (.cells #[.int .i64 0,.slice none 0 0,.slice none 0 0] 25);generalize w2.alloc (.cells #[.int .i64 0,.slice none 0 0,.slice none 0 0] 25)=w3 at *;replace HC:=U (HC.p.jj hb);replace RP:=U (RP.p.jj hb);replace b_:=U (b_.p.jj hb);replace RT:=U (RT.p.jj hb);replace B0:=U (B0.p.jj hb);replace B1:=U (B1.p.jj hb);replace B2:=U (B2.p.jj hb);replace B3:=U (B3.p.jj hb);replace BT:=U (BT.p.jj hb);replace K:=U (Rg.acc K.p hb);clear hb;have C4:=U bX;rw [iY] at C4 ⊢
 have xu:w3.heap.size=w.heap.size+3:=by omega
 clear bX hs;refine d6 5 (.int .i64 ((0:Nat):Int)) ?_;go_frame;go_upto_region 1 with (fail);refine c6 ?_;refine d4 14 (g9 ((.agg #[.slice (some ⟨b,0,none⟩) CS.length cc,.slice pa PS.length pc,.slice sa SS.length sc,.slice ta TS.length tc])) ⟨w.heap.size,0,none⟩ (wX B0.p.cell B1.p.cell B2.p.cell B3.p.cell)) ?_;go_frame;refine f8 15 (aE 78 _ _ rfl rfl (QK _ _)) ?_;refine (uA (cc:=cc) HC.p h1 lC RP.p.r rX b_.p.r kh om.p RT.p.r C6 xB.p HN.p).mono ?_;rintro e1 w4 ⟨rfl,hb⟩;rw [dY.p];refine ⟨_,rfl,?_⟩;go_frame;replace HC:=U (HC.p.jj hb);replace RP:=U (RP.p.jj hb);replace b_:=U (b_.p.jj hb);replace RT:=U (RT.p.jj hb);replace B0:=U (B0.p.jj hb);replace B1:=U (B1.p.jj hb);replace B2:=U (B2.p.jj hb);replace B3:=U (B3.p.jj hb);replace BT:=U (BT.p.jj hb)
 replace C4:=U (C4.p.jj hb);replace K:=U (Rg.acc K.p hb);clear hb;refine d6 6 (.int .i64 ck) ?_;go_frame;have yS:=U (show w.heap.size+3<=w4.heap.size by have:=C4.p.lt; omega);clear yu lD iY xu
 by_cases hz:ck=0
 case neg =>
  skip
  go_upto_region 2 with (fail);refine c6 ?_;refine d5 16 (.int .i64 ck) ?_;go_frame;refine d4 17 (i3 (.bool true) .neq (h:=aQ _ (decide_eq_true hz))) ?_;go_frame;go_upto_region 3 with (fail);refine c6 ?_;refine d4 18 (e_ rfl) ?_;go_frame;refine d5 19 (.int .i64 ck) ?_;go_frame;refine Rg.aA none rfl rfl (Rg.ai _ _ _ rfl _ rfl _ rfl (aM _ _ _ _ _ _ _ C4.p)) ?_;go_frame;have y4:=C4.p.set (.int .i64 0) (.slice none 0 0) (.slice none 0 0);have hk:Below w.heap.size w (((w4.setCell ⟨w.heap.size+2,0,none⟩ (.int .i64 0)).setCell ⟨w.heap.size+2,1,none⟩ (.slice none 0 0)).setCell ⟨w.heap.size+2,2,none⟩ (.slice none 0 0)):=((K.p.setCell (p:=⟨w.heap.size+2,0,none⟩) (show w.heap.size<=w.heap.size+2 by omega) _).setCell (p:=⟨w.heap.size+2,1,none⟩) (show w.heap.size<=w.heap.size+2 by omega) _).setCell (p:=⟨w.heap.size+2,2,none⟩) (show w.heap.size<=w.heap.size+2 by omega) _
  generalize ((w4.setCell ⟨w.heap.size+2,0,none⟩ (.int .i64 0)).setCell ⟨w.heap.size+2,1,none⟩ (.slice none 0 0)).setCell ⟨w.heap.size+2,2,none⟩ (.slice none 0 0)=w5 at *;refine d6 5 (.int .i64 ck) ?_;go_frame;go_wp2;exact RF.leaves w.heap.size [] _ (by simp) (by simp) (fun W' l1 l2 l3=>⟨_,bA rfl _ rfl rfl (Lj y4 l2 l3 l1.size),hk.trans l1,.inl ⟨hz,rfl⟩⟩)
 case pos =>
  subst hz;go_upto_region 2 with (fail);refine c6 ?_;refine d5 16 (.int .i64 0) ?_;go_frame;refine d4 17 (i3 (.bool false) .neq (h:=aQ _ g7)) ?_;go_frame;obtain ⟨bz,dW,Xq,Xr,Xs,TR⟩:=iG dY.p;obtain ⟨N,O,R,en,bW,cN,eo,er,cQ,hH⟩:=fa (oh bz _ (List.getElem_mem (show 0<CS.length by omega)));obtain ⟨Cp,aB⟩:=QN.p rfl;have Xt:=U aB;have QO:=U (show AY c0 N O R from by rw [<- eJ.p]; exact ⟨en,bW,cN,eo,er,cQ,hH⟩)
  have QP:(CS[0]'(by omega)).1.toNat=N:=by rw [en]; simp
  have TH:=U (show lL N (.iface ty vv) Pb Fk A w from by rw [<- QP,eJ.p]; exact Cp);replace TH:=U (TH.p.jj K.p);have dE:=U cQ;have DO:=U hH;have Az:=U (QU QO.p (by rw [<- eJ.p]; exact TR));obtain ⟨oa,on,oc,ra,rn,rc,q0,q1,q2,q3⟩:=DN.p.at_ 0 (by omega);rw [en] at q0;rw [eo,er] at q3;have vZ:=kP ((K.p.cell (p:=⟨b,0*3,none⟩) DN.p.lt).trans q0) ((K.p.cell (p:=⟨b,0*3+1,none⟩) DN.p.lt).trans q1) ((K.p.cell (p:=⟨b,0*3+2,none⟩) DN.p.lt).trans q2);have QQ:=U q3;clear q0 q1 q2 q3 bz dW Xq Xr Xs TR aB Cp QP en eo er cQ hH QN;go_upto_region 4 with (fail);refine c6 ?_;refine d4 20 (ag _ rfl rfl (wW _ _)) ?_;go_frame;refine d4 21 (g9 (.slice (some ⟨b,0,none⟩) CS.length cc) ⟨w.heap.size,0,none⟩ (Rg.ae _ _ Tryz.underlying71 B0.p.cell)) ?_;go_frame;refine d4 22 (bD _ _ rfl Tryz.underlying71 od b (CS.length) (cc) (0) rfl rfl (by omega)) ?_;go_frame
  refine d4 23 (Rg.fQ (v:=(.agg #[.int .i64 ((N:Nat):Int),.slice oa on oc,.slice ra rn rc])) _ _ rfl ⟨b,0*3,none⟩ rfl vZ) ?_;go_frame;refine d4 7 (aU rfl) ?_;go_frame;refine Rg.aA none rfl rfl (Rg.ai _ _ _ rfl _ rfl _ rfl (aM _ _ _ _ _ _ _ (bM.new w4 (.int .i64 0) (.slice none 0 0) (.slice none 0 0)))) ?_;go_frame;have eA:=(bM.new w4 (.int .i64 0) (.slice none 0 0) (.slice none 0 0)).set (.int .i64 ((N:Nat):Int)) (.slice oa on oc) (.slice ra rn rc);have hb:=((((Below.refl w4.heap.size w4).alloc (Nat.le_refl _) (.cells #[.int .i64 0,.slice none 0 0,.slice none 0 0] 25)).setCell (p:=⟨w4.heap.size,0,none⟩) (Nat.le_refl _) (.int .i64 ((N:Nat):Int))).setCell (p:=⟨w4.heap.size,1,none⟩) (Nat.le_refl _) (.slice oa on oc)).setCell (p:=⟨w4.heap.size,2,none⟩) (Nat.le_refl _) (.slice ra rn rc);generalize (((w4.alloc (.cells #[.int .i64 0,.slice none 0 0,.slice none 0 0] 25)).setCell ⟨w4.heap.size,0,none⟩ (.int .i64 ((N:Nat):Int))).setCell ⟨w4.heap.size,1,none⟩ (.slice oa on oc)).setCell ⟨w4.heap.size,2,none⟩ (.slice ra rn rc)=il at *
  replace HC:=U (HC.p.jj hb);replace RP:=U (RP.p.jj hb);replace b_:=U (b_.p.jj hb);replace RT:=U (RT.p.jj hb);replace B0:=U (B0.p.jj hb);replace B1:=U (B1.p.jj hb);replace B2:=U (B2.p.jj hb);replace B3:=U (B3.p.jj hb);replace BT:=U (BT.p.jj hb);replace C4:=U (C4.p.jj hb);replace TH:=U (TH.p.jj hb);replace K:=U (Rg.acc K.p hb);clear hb;have T7:=U eA;clear eA;clear vZ;have h7:w.heap.size+3<=w4.heap.size:=yS.p;have h78:w4.heap.size<il.heap.size:=T7.p.lt;go_upto_region 5 with (fail);refine c6 ?_;have bX:=CW.new il (.slice none 0 0) 41;refine d4 8 (nk rfl) ?_;go_frame;have hb:=(Below.refl il.heap.size il).alloc (Nat.le_refl _) (.cells #[.slice none 0 0] 41);generalize il.alloc (.cells #[.slice none 0 0] 41)=zF at *;replace HC:=U (HC.p.jj hb);replace RP:=U (RP.p.jj hb)
  replace b_:=U (b_.p.jj hb);replace RT:=U (RT.p.jj hb);replace B0:=U (B0.p.jj hb);replace B1:=U (B1.p.jj hb);replace B2:=U (B2.p.jj hb);replace B3:=U (B3.p.jj hb);replace BT:=U (BT.p.jj hb);replace C4:=U (C4.p.jj hb);replace TH:=U (TH.p.jj hb);replace T7:=U (T7.p.jj hb);replace K:=U (Rg.acc K.p hb);clear hb;have C8:=U bX;clear bX;have Jj:=U (show il.heap.size<zF.heap.size from C8.p.lt);go_upto_region 6 with (fail);refine c6 ?_;refine d4 25 (ag _ rfl rfl (fF _ _)) ?_;go_frame;refine d4 26 (g9 (.int .i64 ((N:Nat):Int)) ⟨w4.heap.size,0,none⟩ (ah T7.p.c0)) ?_;go_frame;refine f8 27 (aj 42 _ _ _ rfl rfl rfl (o6 _ _)) ?_;refine (jR bW cN (gs:=[]) (by simp) (fun s hs=>by simp at hs) (.slice none 0 0) zF (cz _)).mono ?_;rintro e1 iH ⟨ma,mn,mc,na,nn,nc,O0,R0,rfl,dp,hb⟩
  have QV:=U dp;clear dp;have HY0:=U hb.size;have G3:Nu iH iH:=⟨Below.refl _ _⟩;refine ⟨_,rfl,?_⟩;go_frame;replace HC:=U (HC.p.jj hb);replace RP:=U (RP.p.jj hb);replace b_:=U (b_.p.jj hb);replace RT:=U (RT.p.jj hb);replace B0:=U (B0.p.jj hb);replace B1:=U (B1.p.jj hb);replace B2:=U (B2.p.jj hb);replace B3:=U (B3.p.jj hb);replace BT:=U (BT.p.jj hb);replace C4:=U (C4.p.jj hb);replace TH:=U (TH.p.jj hb);replace T7:=U (T7.p.jj hb);replace C8:=U (C8.p.jj hb);replace K:=U (Rg.acc K.p hb);clear hb;have KY:=U G3;refine d5 24 ((.tuple #[.agg #[.int .i64 ((N:Nat):Int),.slice ma mn mc,.slice na nn nc],.int .i64 0])) ?_;go_frame;refine d4 28 (i7 (.agg #[.int .i64 ((N:Nat):Int),.slice ma mn mc,.slice na nn nc])) ?_;go_frame;refine d4 29 (i7 (.int .i64 0)) ?_;go_frame
  refine d4 9 (aU rfl) ?_;go_frame;refine Rg.aA none rfl rfl (Rg.ai _ _ _ rfl _ rfl _ rfl (aM _ _ _ _ _ _ _ (bM.new iH (.int .i64 0) (.slice none 0 0) (.slice none 0 0)))) ?_;go_frame;have eA:=(bM.new iH (.int .i64 0) (.slice none 0 0) (.slice none 0 0)).set (.int .i64 ((N:Nat):Int)) (.slice ma mn mc) (.slice na nn nc);have hb:=((((Below.refl iH.heap.size iH).alloc (Nat.le_refl _) (.cells #[.int .i64 0,.slice none 0 0,.slice none 0 0] 25)).setCell (p:=⟨iH.heap.size,0,none⟩) (Nat.le_refl _) (.int .i64 ((N:Nat):Int))).setCell (p:=⟨iH.heap.size,1,none⟩) (Nat.le_refl _) (.slice ma mn mc)).setCell (p:=⟨iH.heap.size,2,none⟩) (Nat.le_refl _) (.slice na nn nc);generalize (((iH.alloc (.cells #[.int .i64 0,.slice none 0 0,.slice none 0 0] 25)).setCell ⟨iH.heap.size,0,none⟩ (.int .i64 ((N:Nat):Int))).setCell ⟨iH.heap.size,1,none⟩ (.slice ma mn mc)).setCell ⟨iH.heap.size,2,none⟩ (.slice na nn nc)=w18 at *
  replace HC:=U (HC.p.jj hb);replace RP:=U (RP.p.jj hb);replace b_:=U (b_.p.jj hb);replace RT:=U (RT.p.jj hb);replace B0:=U (B0.p.jj hb);replace B1:=U (B1.p.jj hb);replace B2:=U (B2.p.jj hb);replace B3:=U (B3.p.jj hb);replace BT:=U (BT.p.jj hb);replace C4:=U (C4.p.jj hb);replace TH:=U (TH.p.jj hb);replace T7:=U (T7.p.jj hb);replace C8:=U (C8.p.jj hb);replace KY:=U (KY.p.jj hb);replace K:=U (Rg.acc K.p hb);clear hb;have T9:=U eA;clear eA;refine d6 10 (.int .i64 0) ?_;go_frame;clear G3;have aav:=U (show il.heap.size<iH.heap.size from Nat.lt_of_lt_of_le Jj.p HY0.p);have HB9:=U (show iH.heap.size<=iH.heap.size from Nat.le_refl _);have T9L:=U T9.p.lt;go_upto_region 7 with (fail);refine c6 ?_;refine d4 30 (g9 ((.agg #[.int .i64 ((N:Nat):Int),.slice oa on oc,.slice ra rn rc])) ⟨w4.heap.size,0,none⟩ (aq T7.p.c0 T7.p.c1 T7.p.c2)) ?_;go_frame
  refine f8 31 (aE 79 _ _ rfl rfl (QL _ _)) ?_;refine (wY (((N:Nat):Int)) (.slice oa on oc) (.slice ra rn rc) w18).mono ?_;rintro e1 DS ⟨cb,hcb,rfl,yn,hb⟩;refine ⟨_,rfl,?_⟩;go_frame;replace HC:=U (HC.p.jj hb);replace RP:=U (RP.p.jj hb);replace b_:=U (b_.p.jj hb);replace RT:=U (RT.p.jj hb);replace B0:=U (B0.p.jj hb);replace B1:=U (B1.p.jj hb);replace B2:=U (B2.p.jj hb);replace B3:=U (B3.p.jj hb);replace BT:=U (BT.p.jj hb);replace C4:=U (C4.p.jj hb);replace TH:=U (TH.p.jj hb);replace T7:=U (T7.p.jj hb);replace C8:=U (C8.p.jj hb);replace KY:=U (KY.p.jj hb);replace T9:=U (T9.p.jj hb);replace K:=U (Rg.acc K.p hb);clear hb;have E0:=U yn.1;have E1:=U yn.2.1;have E2:=U yn.2.2;clear yn;have h89:il.heap.size<iH.heap.size:=aav.p;have h79:w4.heap.size<il.heap.size:=h78
  have h9c:iH.heap.size<cb:=Nat.lt_of_lt_of_le T9L.p hcb;have rh:cb<DS.heap.size:=E0.p.lt;have DP:=U (Rg.Kp.aC (M:=fun _=>False) K.p);have QR:Rg.aG (fun z=>z<DS.heap.size/\¬ qJ il.heap.size iH.heap.size (.slice none 0 0) z) DS (.slice oa on oc) (O.map Ma.af):=((Rg.aG.nH QQ.p.1).kp DP.p (fun _ _=>id)).mono (fun z hz=>⟨by have:=K.p.size; omega,fun hc=>by have:=mi hc; omega⟩);have QT:bg (fun z=>z<DS.heap.size/\¬ qJ il.heap.size iH.heap.size (.slice none 0 0) z) DS (.slice ra rn rc) (R.map (List.map Ma.af)):=((kQ QQ.p.2).kp DP.p (fun _ _=>id)).mono (fun z hz=>⟨by have:=K.p.size; omega,fun hc=>by have:=mi hc; omega⟩);have hM0:kR N il.heap.size iH.heap.size [] (.slice none 0 0) (.slice none 0 0) (.slice ma mn mc) (.slice na nn nc) DS:=⟨cO.nil _ _ _ _ (Nat.le_of_lt T9.p.lt),C8.p,T9.p,h89⟩
  have Xw:we N il.heap.size iH.heap.size [] (.slice none 0 0) (.slice ma mn mc) (.slice na nn nc) O0 R0 DS:=by
   obtain ⟨g1,g2,g3⟩:=QV.p;have hsY:=KY.p.h.size;have SN:=Jj.p;have hB9:=HB9.p;exact ⟨(g1.kp (M:=fun _=>False) (Rg.Kp.aC KY.p.h) (fun _ _=>id)).mono (fun z hz=>⟨by omega,by omega,fun hc=>by have:=mi hc; omega⟩),bg.mono (g2.kp (M:=fun _=>False) (Rg.Kp.aC KY.p.h) (fun _ _=>id)) (fun z hz=>⟨by omega,by omega,fun hc=>by have:=mi hc; omega⟩),g3⟩
  go_wp2
  refine zx bW cN (Gr.bV DO.p) dE.p (cb:=cb) (by exact rfl) (by exact rfl) (F:=fun z=>z<DS.heap.size/\¬ qJ il.heap.size iH.heap.size (.slice none 0 0) z) (C0:=qJ il.heap.size iH.heap.size (.slice none 0 0)) ⟨rh,fun hc=>by have:=mi hc; omega⟩ E0.p.cell E1.p.cell E2.p.cell QR QT (fun z hz=>hz.1) (fun z hz=>hz.2)
   (QtI N (gQ N O R) Pb Fk A (w.heap.size+1) (w.heap.size+2) w4.heap.size il.heap.size iH.heap.size DS.heap.size (.iface ty vv)) (fun _ _=>False)
   (fun t C W W' h hb=>⟨h.a.jj hb,h.ct.jj hb,h.c7.jj hb,h.c4.jj hb,h.TW,by obtain ⟨v,gs,o1,o2,o3,r1,r2,r3,O1,R1,e,g,m,d⟩:=h.x; exact ⟨v,gs,o1,o2,o3,r1,r2,r3,O1,R1,e,g,m.jj hb,d.jj hb⟩⟩)
   (fun t C W W' h hb=>⟨h.a.same hb,h.ct.same hb,h.c7.same hb,h.c4.same hb,h.TW,by obtain ⟨v,gs,o1,o2,o3,r1,r2,r3,O1,R1,e,g,m,d⟩:=h.x; exact ⟨v,gs,o1,o2,o3,r1,r2,r3,O1,R1,e,g,m.same hb,d.same hb⟩⟩)
   (fun _ _ _ h _=>h) (fun t C W h z hz=>by
    have hf:=h.TW z hz;obtain ⟨v,gs,o1,o2,o3,r1,r2,r3,O1,R1,e,g,m,d⟩:=h.x;rw [e] at hz
    exact ⟨m.lt z hz,by omega,by omega⟩)
   ⟨TH.p,CL.mk BT.p.c BT.p.lt,CL.mk T7.p.c0 T7.p.lt,C4.p,fun z hz=>by have:=mi hz; exact .inl (by omega),⟨_,_,_,_,_,_,_,_,_,_,rfl,uB.nil Xw.ch,hM0,Xw⟩⟩ (fun x=>{ tmps:=#[(.agg #[.slice (some ⟨b,0,none⟩) CS.length cc,.slice pa PS.length pc,.slice sa SS.length sc,.slice ta TS.length tc]),.iface ty vv,.pointer (some ⟨w.heap.size,0,none⟩),.pointer (some ⟨(w.heap.size+1),0,none⟩),.pointer (some ⟨(w.heap.size+2),0,none⟩),.int .i64 ((0:Nat):Int),.int .i64 0,.pointer (some ⟨w4.heap.size,0,none⟩),.pointer (some ⟨il.heap.size,0,none⟩),.pointer (some ⟨iH.heap.size,0,none⟩),.int .i64 0,x,undef,undef,(.agg #[.slice (some ⟨b,0,none⟩) CS.length cc,.slice pa PS.length pc,.slice sa SS.length sc,.slice ta TS.length tc]),.int .i64 0,.int .i64 0,.bool false,undef,undef,.pointer (some ⟨w.heap.size,0,none⟩),.slice (some ⟨b,0,none⟩) CS.length cc,.pointer (some ⟨b,0*3,none⟩),(.agg #[.int .i64 ((N:Nat):Int),.slice oa on oc,.slice ra rn rc]),(.tuple #[.agg #[.int .i64 ((N:Nat):Int),.slice ma mn mc,.slice na nn nc],.int .i64 0]),.pointer (some ⟨w4.heap.size,0,none⟩),.int .i64 ((N:Nat):Int),(.tuple #[.agg #[.int .i64 ((N:Nat):Int),.slice ma mn mc,.slice na nn nc],.int .i64 0]),(.agg #[.int .i64 ((N:Nat):Int),.slice ma mn mc,.slice na nn nc]),.int .i64 0,(.agg #[.int .i64 ((N:Nat):Int),.slice oa on oc,.slice ra rn rc]),(.func (.func 107) #[] #[.pointer (some ⟨cb,0,none⟩)]),x,undef,undef,undef,undef,undef,undef,undef,undef,undef,undef,undef,undef,undef,undef,undef,undef,undef,undef,undef,undef,undef,undef,undef,undef],defers:=[] }) ?asg ?body ?done (fun _ _ hx=>hx.elim)
  case asg =>
   intro n l x W K hK
   gi_wp2
   exact hK
  case body =>
   rintro n l t C x W hi ht DQ hsW;obtain ⟨v,gs,o1,o2,o3,r1,r2,r3,O1,R1,rfl,hg,hm,hd⟩:=hi.x;obtain ⟨va,vc,rfl⟩:=hm.sl;obtain ⟨xm,xa,xc,hxm,rfl,-⟩:=DQ.len;obtain ⟨F0,recv,hinv,jI⟩:=hi.a.th.m;obtain ⟨q,hq⟩:∃ q,Hid ((gQ N O R).getD t []=q):=⟨_,U rfl⟩;rw [hq.p] at DQ;have GQ:=U (show Gd N q by rw [<- hq.p,List.getD_eq_getElem?_getD,List.getElem?_eq_getElem ht]; exact (Gr.bV DO.p).gd _ (((fI DO.p dE.p).2 _).1 (List.getElem_mem ht)));obtain ⟨pb,uy⟩:∃ z,Hid (Pb q=z):=⟨_,U rfl⟩;obtain ⟨ib,GF⟩:∃ z,Hid (nX ((N:Nat):Int) (O1.map Ma.af) (R1.map (List.map Ma.af)) (Ma.af q)=z):=⟨_,U rfl⟩;have FX:=U DQ;have HG:=U hg;have AQ:=U hd.ch;have QW:=U (hg.le DO.p (fI DO.p dE.p) Az.p);have HT:=U ht;have TT:=U hi.a;have TC:=U hi.ct;have C7:=U hi.c7;have D4:=U hi.c4;have PM:=U hm
   have PD:=U hd;have Xx:=U hi.TW;have KR:=U (Below.refl W.heap.size W);clear hi DQ ht QR QT DP hM0 Xw hm hd hg
   cases pb
   case false =>
    skip
    gi_upto_region 9 with (fail)
    refine wpIn_region_list ?_;refine Rg.ax (some 33) rfl rfl (fun _ hh=>by cases hh) (g9 (.iface ty vv) ⟨w.heap.size+1,0,none⟩ (qI TC.p.cell)) ?_;go_frame;refine Rg.ax (some 34) rfl rfl (fun _ hh=>by cases hh) (a7 (.slice xa xm xc) _ rfl rfl) ?_;go_frame;refine Rg.oK (some 35) rfl rfl (fun _ hh=>by cases hh) _ _ (wa (recv:=recv) _ _ _ rfl rfl rfl (hinv _ _)) ?_;refine (jI W _ q TT.p.a (FX.p.ints) GQ.p).mono ?_;rintro e1 SH ⟨rfl,hb⟩;rw [uy.p];refine ⟨_,rfl,?_⟩;go_frame;replace FX:=U (FX.p.jj hb);replace TT:=U (TT.p.jj hb);replace TC:=U (TC.p.jj hb);replace C7:=U (C7.p.jj hb);replace D4:=U (D4.p.jj hb);replace PM:=U (PM.p.jj hb);replace PD:=U (PD.p.jj hb);replace KR:=U (Rg.acc KR.p hb);clear hb;refine Rg.ax (some 36) rfl rfl (fun _ hh=>by cases hh) (bu _ _ false rfl rfl) ?_;go_frame
    gi_wp2
    exact ⟨_,⟨TT.p,TC.p,C7.p,D4.p,Xx.p,⟨_,_,_,_,_,_,_,_,_,_,rfl,HG.p.skip (by rw [hq.p]; intro _ h; rw [uy.p] at h; cases h),PM.p,PD.p⟩⟩,Rg.Kp.aC KR.p,fun z h=>.inl h⟩
   case true =>
    skip
    gi_upto_region 9 with (fail)
    refine wpIn_region_list ?_;refine Rg.ax (some 33) rfl rfl (fun _ hh=>by cases hh) (g9 (.iface ty vv) ⟨w.heap.size+1,0,none⟩ (qI TC.p.cell)) ?_;go_frame;refine Rg.ax (some 34) rfl rfl (fun _ hh=>by cases hh) (a7 (.slice xa xm xc) _ rfl rfl) ?_;go_frame;refine Rg.oK (some 35) rfl rfl (fun _ hh=>by cases hh) _ _ (wa (recv:=recv) _ _ _ rfl rfl rfl (hinv _ _)) ?_;refine (jI W _ q TT.p.a (FX.p.ints) GQ.p).mono ?_;rintro e1 Jl ⟨rfl,hb⟩;rw [uy.p];refine ⟨_,rfl,?_⟩;go_frame;replace FX:=U (FX.p.jj hb);replace TT:=U (TT.p.jj hb);replace TC:=U (TC.p.jj hb);replace C7:=U (C7.p.jj hb);replace D4:=U (D4.p.jj hb);replace PM:=U (PM.p.jj hb);replace PD:=U (PD.p.jj hb);replace KR:=U (Rg.acc KR.p hb);clear hb;refine Rg.ax (some 36) rfl rfl (fun _ hh=>by cases hh) (bu _ _ true rfl rfl) ?_;go_frame
    cases ib
    case true =>
     skip
     gi_upto_region 10 with (fail)
     refine wpIn_region_list ?_;refine Rg.ax (some 38) rfl rfl (fun _ hh=>by cases hh) (g9 ((.agg #[.int .i64 ((N:Nat):Int),.slice o1 o2 o3,.slice r1 r2 r3])) ⟨iH.heap.size,0,none⟩ (aq PM.p.c9.c0 PM.p.c9.c1 PM.p.c9.c2)) ?_;go_frame;refine Rg.ax (some 39) rfl rfl (fun _ hh=>by cases hh) (a7 (.slice xa xm xc) _ rfl rfl) ?_;go_frame;refine Rg.oK (some 40) rfl rfl (fun _ hh=>by cases hh) _ _ (aj 67 _ _ _ rfl rfl rfl (zA _ _)) ?_;refine (nZ (PD.p.ce) (FX.p.ints)).mono ?_;rintro e1 Ds ⟨rfl,hb⟩;rw [GF.p,o5 bW cN HG.p.gd AQ.p GQ.p];refine ⟨_,rfl,?_⟩;go_frame;replace FX:=U (FX.p.jj hb);replace TT:=U (TT.p.jj hb);replace TC:=U (TC.p.jj hb);replace C7:=U (C7.p.jj hb);replace D4:=U (D4.p.jj hb);replace PM:=U (PM.p.jj hb);replace PD:=U (PD.p.jj hb);replace KR:=U (Rg.acc KR.p hb)
     clear hb;refine Rg.ax (some 37) rfl rfl (fun _ hh=>by cases hh) (a7 (.tuple #[.bool true,.int .i64 0]) _ rfl rfl) ?_;go_frame;refine Rg.ax (some 41) rfl rfl (fun _ hh=>by cases hh) (i7 (.bool true)) ?_;go_frame;refine Rg.ax (some 42) rfl rfl (fun _ hh=>by cases hh) (i7 (.int .i64 0)) ?_;go_frame;refine Rg.ax (some 12) rfl rfl (fun _ hh=>by cases hh) (a8 (.bool true) _ rfl rfl) ?_;go_frame;refine Rg.ax (some 13) rfl rfl (fun _ hh=>by cases hh) (a8 (.int .i64 0) _ rfl rfl) ?_;go_frame
     gi_upto_region 11 with (fail)
     refine wpIn_region_list ?_;refine Rg.ax (some 43) rfl rfl (fun _ hh=>by cases hh) (a7 (.bool true) _ rfl rfl) ?_;go_frame;refine Rg.ax (some 44) rfl rfl (fun _ hh=>by cases hh) (bu _ _ true rfl rfl) ?_;go_frame
     gi_wp2
     exact ⟨_,⟨TT.p,TC.p,C7.p,D4.p,Xx.p,⟨_,_,_,_,_,_,_,_,_,_,rfl,HG.p.skip (by rw [hq.p]; intro _ _; exact (kx bW cN HG.p.gd AQ.p GQ.p).1 GF.p),PM.p,PD.p⟩⟩,Rg.Kp.aC KR.p,fun z h=>.inl h⟩
    case false =>
     skip
     gi_upto_region 10 with (fail)
     refine wpIn_region_list ?_;refine Rg.ax (some 38) rfl rfl (fun _ hh=>by cases hh) (g9 ((.agg #[.int .i64 ((N:Nat):Int),.slice o1 o2 o3,.slice r1 r2 r3])) ⟨iH.heap.size,0,none⟩ (aq PM.p.c9.c0 PM.p.c9.c1 PM.p.c9.c2)) ?_;go_frame;refine Rg.ax (some 39) rfl rfl (fun _ hh=>by cases hh) (a7 (.slice xa xm xc) _ rfl rfl) ?_;go_frame;refine Rg.oK (some 40) rfl rfl (fun _ hh=>by cases hh) _ _ (aj 67 _ _ _ rfl rfl rfl (zA _ _)) ?_;refine (nZ (PD.p.ce) (FX.p.ints)).mono ?_;rintro e1 jn ⟨rfl,hb⟩;rw [GF.p,o5 bW cN HG.p.gd AQ.p GQ.p];refine ⟨_,rfl,?_⟩;go_frame;replace FX:=U (FX.p.jj hb);replace TT:=U (TT.p.jj hb);replace TC:=U (TC.p.jj hb);replace C7:=U (C7.p.jj hb);replace D4:=U (D4.p.jj hb);replace PM:=U (PM.p.jj hb);replace PD:=U (PD.p.jj hb);replace KR:=U (Rg.acc KR.p hb)
     clear hb;refine Rg.ax (some 37) rfl rfl (fun _ hh=>by cases hh) (a7 (.tuple #[.bool false,.int .i64 0]) _ rfl rfl) ?_;go_frame;refine Rg.ax (some 41) rfl rfl (fun _ hh=>by cases hh) (i7 (.bool false)) ?_;go_frame;refine Rg.ax (some 42) rfl rfl (fun _ hh=>by cases hh) (i7 (.int .i64 0)) ?_;go_frame;refine Rg.ax (some 12) rfl rfl (fun _ hh=>by cases hh) (a8 (.bool false) _ rfl rfl) ?_;go_frame;refine Rg.ax (some 13) rfl rfl (fun _ hh=>by cases hh) (a8 (.int .i64 0) _ rfl rfl) ?_;go_frame
     gi_upto_region 11 with (fail)
     refine wpIn_region_list ?_;refine Rg.ax (some 43) rfl rfl (fun _ hh=>by cases hh) (a7 (.bool false) _ rfl rfl) ?_;go_frame;refine Rg.ax (some 44) rfl rfl (fun _ hh=>by cases hh) (bu _ _ false rfl rfl) ?_;go_frame
     gi_upto_region 12 with (fail)
     refine wpIn_region_list ?_;refine Rg.ax (some 45) rfl rfl (fun _ hh=>by cases hh) (g9 (.slice va gs.length vc) ⟨il.heap.size,0,none⟩ (Rg.ae _ _ Tryz.underlying41 PM.p.c8.c)) ?_;go_frame;refine Rg.ax (some 46) rfl rfl (fun _ hh=>by cases hh) (a7 (.slice xa xm xc) _ rfl rfl) ?_;go_frame;have iy:=QW.p;obtain ⟨a9,c9,X9,q1,CC,cE,hC9⟩:=PM.p.push FX.p ⟨_,_,_,rfl⟩ (by omega) 41;refine Rg.ax (some 47) rfl rfl (fun _ hh=>by cases hh) (Rg.aN _ _ _ rfl (.slice xa xm xc) rfl (dx jn _ ⟨_,_,_,rfl⟩)) ?_;go_frame;refine Rg.ax (some 48) rfl rfl (fun _ hh=>by cases hh) (Rg.bF _ _ _ rfl rfl rfl q1) ?_;go_frame;refine Rg.fH none rfl rfl (fun _ hh=>by cases hh) (Rg.ai _ _ _ rfl _ rfl _ rfl (Rg.br _ eF CC.c8.c CC.c8.f)) ?_;go_frame;have Ci:=PM.p.ge (Nat.le_refl il.heap.size)
     have BU:Rg.Kp (qJ il.heap.size iH.heap.size (.slice va gs.length vc)) jn (X9.setCell ⟨il.heap.size,0,none⟩ (.slice a9 (gs.length+1) c9)):=cE.trans (Rg.Kp.aO (.inl rfl)) (fun _ _ h=>h);have QY:=CC.aas (.slice a9 (gs.length+1) c9);generalize X9.setCell ⟨il.heap.size,0,none⟩ (.slice a9 (gs.length+1) c9)=Xy at *;have Xz:=U (TT.p.kp BU (fun z hz hc=>by have:=Ci z hc; have:=Xt.p z hz; omega));have XA:=U (TC.p.kp BU (fun hc=>by have:=Ci _ hc; omega));have TX:=U (C7.p.kp BU (fun hc=>by have:=Ci _ hc; omega));have XB:=U (D4.p.kp BU (fun hc=>by have:=Ci _ hc; omega));have JR:=U QY;have MP:=U QY.lt;have aaw:=U BU;have HC9:=U hC9;have eQ:=U (show ∀ s∈gs++[q],Gd N s from fun s hs=>(List.mem_append.1 hs).elim (HG.p.gd s) fun e=>by rw [List.mem_singleton] at e; exact e▸GQ.p)
     have XC:=U (Below.refl Xy.heap.size Xy);clear CC cE hC9 q1 BU QY TT TC C7 D4 PM PD FX
     gi_upto_region 13 with (fail)
     refine wpIn_region_list ?_;refine Rg.ax (some 50) rfl rfl (fun _ hh=>by cases hh) (ag _ rfl rfl (fF _ _)) ?_;go_frame;refine Rg.ax (some 51) rfl rfl (fun _ hh=>by cases hh) (g9 (.int .i64 ((N:Nat):Int)) ⟨w4.heap.size,0,none⟩ (ah TX.p.cell)) ?_;go_frame;refine Rg.ax (some 52) rfl rfl (fun _ hh=>by cases hh) (g9 (.slice a9 (gs.length+1) c9) ⟨il.heap.size,0,none⟩ (Rg.ae _ _ Tryz.underlying41 JR.p.c8.c)) ?_;go_frame;refine Rg.oK (some 53) rfl rfl (fun _ hh=>by cases hh) _ _ (aj 42 _ _ _ rfl rfl rfl (o6 _ _)) ?_;refine (jR bW cN (gs:=gs++[q]) (by rw [List.length_append]; have:=QW.p; simp; omega) eQ.p (.slice a9 (gs.length+1) c9) Xy (JR.p.row.rows (by rw [List.length_append]; have:=QW.p; simp; omega))).mono ?_;rintro e1 vF ⟨m1,m2,m3,n1,n2,n3,O2,R2,rfl,dp,hb⟩;have HM2:=U dp
     clear dp;refine ⟨_,rfl,?_⟩;go_frame;replace Xz:=U (Xz.p.jj hb);replace XA:=U (XA.p.jj hb);replace TX:=U (TX.p.jj hb);replace XB:=U (XB.p.jj hb);replace JR:=U (JR.p.jj hb);replace XC:=U (Rg.acc XC.p hb);clear hb;refine Rg.ax (some 49) rfl rfl (fun _ hh=>by cases hh) (a7 ((.tuple #[.agg #[.int .i64 ((N:Nat):Int),.slice m1 m2 m3,.slice n1 n2 n3],.int .i64 0])) _ rfl rfl) ?_;go_frame;refine Rg.ax (some 54) rfl rfl (fun _ hh=>by cases hh) (i7 (.agg #[.int .i64 ((N:Nat):Int),.slice m1 m2 m3,.slice n1 n2 n3])) ?_;go_frame;refine Rg.ax (some 55) rfl rfl (fun _ hh=>by cases hh) (i7 (.int .i64 0)) ?_;go_frame;refine Rg.fH none rfl rfl (fun _ hh=>by cases hh) (Rg.ai _ _ _ rfl _ rfl _ rfl (aM _ _ _ _ _ _ _ JR.p.c9)) ?_;go_frame;obtain ⟨aax,lG⟩:=JR.p.aat (.slice m1 m2 m3) (.slice n1 n2 n3)
     obtain ⟨g1,g2,g3⟩:=HM2.p;have hpd:=we.mk9 MP.p (by have:=MP.p il.heap.size (.inl rfl); omega) g1 g2 g3 lG;have aaS:=JR.p.ge (Nat.le_refl il.heap.size);have yr:=HC9.p;have aaT:=KR.p.size;generalize ((vF.setCell ⟨iH.heap.size,0,none⟩ (.int .i64 ((N:Nat):Int))).setCell ⟨iH.heap.size,1,none⟩ (.slice m1 m2 m3)).setCell ⟨iH.heap.size,2,none⟩ (.slice n1 n2 n3)=W14 at *
     gi_wp2
     refine ⟨_,⟨Xz.p.kp lG (fun z hz hc=>by have:=Xt.p z hz; omega),XA.p.kp lG (by omega),TX.p.kp lG (by omega),XB.p.kp lG (by omega),fun z hz=>?_,⟨_,_,_,_,_,_,_,_,_,_,rfl,HG.p.push HT.p hq.p GQ.p uy.p (fun hc=>by have:=(kx bW cN HG.p.gd AQ.p GQ.p).2 hc; rw [GF.p] at this; cases this) g3,aax,hpd⟩⟩,?_,fun z hz=>?_⟩
     ·rcases yr z hz with h | h
      ·exact Xx.p z h
      ·exact .inr (by omega)
     ·exact (((Rg.Kp.aC KR.p).trans aaw.p (fun _ _ h=>h)).trans (Rg.Kp.aC (M:=fun _=>False) XC.p) (fun _ _ h=>h.elim)).trans lG (fun z _ h=>.inr (.inl h))
     ·rcases yr z hz with h | h
      ·exact .inl h
      ·exact .inr (by omega)
  case done =>
   rintro C W hi hD hk;obtain ⟨v,gs,o1,o2,o3,r1,r2,r3,O1,R1,rfl,hg,hm,hd⟩:=hi.x;have Nt:=Rg.Kp.jj K.p hk (fun z hz=>by have:=mi hz; omega);have D4:=U hi.c4;have PM:=U hm;have PD:=U hd;have HG:=U hg;have DP:=U Nt;have HD:=U hD;clear hi hm hd hg hk Nt hD;go_upto_region 14 with (fail);refine c6 ?_;refine d4 56 (g9 ((.agg #[.int .i64 ((N:Nat):Int),.slice o1 o2 o3,.slice r1 r2 r3])) ⟨iH.heap.size,0,none⟩ (aq PM.p.c9.c0 PM.p.c9.c1 PM.p.c9.c2)) ?_;go_frame;refine Rg.aA none rfl rfl (Rg.ai _ _ _ rfl _ rfl _ rfl (aM _ _ _ _ _ _ _ D4.p)) ?_;go_frame;refine d6 5 (.int .i64 ((0:Nat):Int)) ?_;go_frame;have y4:=D4.p.set (.int .i64 ((N:Nat):Int)) (.slice o1 o2 o3) (.slice r1 r2 r3);have k4:Rg.Kp (fun z=>z=w.heap.size+2) W (((W.setCell ⟨w.heap.size+2,0,none⟩ (.int .i64 ((N:Nat):Int))).setCell ⟨w.heap.size+2,1,none⟩ (.slice o1 o2 o3)).setCell ⟨w.heap.size+2,2,none⟩ (.slice r1 r2 r3)):=eN _ _ _ _ _
   have jB:=Rg.Kp.jj DP.p k4 (fun z hz=>by omega);have nr:=((HD.p.setCell ⟨w.heap.size+2,0,none⟩ (.int .i64 ((N:Nat):Int))).setCell ⟨w.heap.size+2,1,none⟩ (.slice o1 o2 o3)).setCell ⟨w.heap.size+2,2,none⟩ (.slice r1 r2 r3);have g1:=PD.p.o.kp k4 (fun z hz e=>by omega);have g2:=PD.p.r.kp k4 (fun z hz e=>by omega);generalize ((W.setCell ⟨w.heap.size+2,0,none⟩ (.int .i64 ((N:Nat):Int))).setCell ⟨w.heap.size+2,1,none⟩ (.slice o1 o2 o3)).setCell ⟨w.heap.size+2,2,none⟩ (.slice r1 r2 r3)=ep at *;go_wp2;exact RF.leaves w.heap.size [_] _ (by simp) (by intro D fU; simp at fU; subst fU; exact ⟨nr,by omega⟩) (fun W' l1 l2 l3=>⟨_,bA rfl _ rfl rfl (Lj y4 l2 l3 l1.size),jB.trans l1,.inr ⟨rfl,N,O,R,QO.p,gs,_,_,_,_,_,_,O1,R1,rfl,(uC g1 l2 l1.size).mono (fun z hz=>by omega),bg.mono (AZ g2 l2 l1.size) (fun z hz=>by omega),PD.p.ch,HG.p.TU,fun x h1 h2=>HG.p.done h1 h2⟩⟩)
end
section
open Go.RowKit
open Go.Proofs.Ob
open Go.Proofs.Cm (Gd Gr ak ap lexLt cj St)
attribute [local irreducible] Go.Calls Go.wpList
theorem qK (X:World) (n:Int) (a:Option Addr) (m c:Nat) (a':Option Addr) (m' c':Nat):(Instr.buildSlice 71 1 #[(0,.agg #[.int .i64 n,.slice a m c,.slice a' m' c'])]).run Tryz.prog X=.ok (.slice (some ⟨X.heap.size,0,none⟩) 1 1) (X.alloc (.cells #[.int .i64 n,.slice a m c,.slice a' m' c'] 25)):=by
 obtain ⟨i0,hi,cT,bz,dW⟩:=info_parts gZ;refine run_buildSlice X 71 25 1 _ _ i0 _ Tryz.underlying71 hi cT (by rw [bz]; decide) (by rw [bz]; decide) ?_;generalize (fun x=>((Value.agg #[.int .i64 0,.slice none 0 0,.slice none 0 0]).cells)[x % (Value.agg #[.int .i64 0,.slice none 0 0,.slice none 0 0]).cells.size]!)=f;rw [bz];have h1:Array.range (1*3)=#[0,1,2]:=rfl;simp [Instr.fill,Value.cells,h1]
theorem qL (X:World) (a:Option Addr) (m c:Nat) (a':Option Addr) (m' c':Nat):(Instr.buildSlice 41 2 #[(0,.slice a m c),(1,.slice a' m' c')]).run Tryz.prog X=.ok (.slice (some ⟨X.heap.size,0,none⟩) 2 2) (X.alloc (.cells #[.slice a m c,.slice a' m' c'] 27)):=by
 obtain ⟨i0,hi,cT,bz,dW⟩:=info_parts dC;refine run_buildSlice X 41 27 2 _ _ i0 _ Tryz.underlying41 hi cT (by rw [bz]; decide) (by rw [bz]; decide) ?_;generalize (fun x=>((Value.slice none 0 0).cells)[x % (Value.slice none 0 0).cells.size]!)=f;rw [bz];have h1:Array.range (2*1)=#[0,1]:=rfl;simp [Instr.fill,Value.cells,h1]
theorem jz {o:Oper} {a:Act} (T:TypeId) (x:Operand) (ho:o.op=.makeInterface T x) (hx:a.eval x=v) (hr:(Instr.makeInterface T v).run Tryz.prog w=.ok (.iface T v) w):(execOp a.eval o).run Tryz.prog w=.ok (.value (.iface T v)) w:=by
 unfold execOp;simp [ho,hx,hr,Result.andThen]
theorem QZ (v:Value) (w:World):(Instr.makeInterface 76 v).run Tryz.prog w=.ok (.iface 76 v) w:=by kernel_rfl
theorem Q0 (v:Value) (w:World):(Instr.makeInterface 83 v).run Tryz.prog w=.ok (.iface 83 v) w:=by kernel_rfl
theorem XD (v:Value) (w:World):(Instr.makeInterface 86 v).run Tryz.prog w=.ok (.iface 86 v) w:=by kernel_rfl
theorem Q4 (v:Value) (w:World):(Instr.makeInterface 99 v).run Tryz.prog w=.ok (.iface 99 v) w:=by kernel_rfl
theorem BV {o:Oper} {ac:Act} {a a':Option Addr} {c n' c':Nat} (x y:Operand) (ho:o.op=.build 73 #[(0,x),(1,y)]) (hx:ac.eval x=.slice a n c) (hy:ac.eval y=.slice a' n' c') :
  (execOp ac.eval o).run Tryz.prog w=.ok (.value (.agg #[.slice a n c,.slice a' n' c',.slice none 0 0,.slice none 0 0])) w:=by
 unfold execOp;simp only [ho,Sem.run_bind,Sem.run_pure];simp only [List.map_toArray,List.map_cons,List.map_nil,hx,hy]
 have h:(Instr.build 73 #[(0,.slice a n c),(1,.slice a' n' c')]).run Tryz.prog w=.ok (.agg #[.slice a n c,.slice a' n' c',.slice none 0 0,.slice none 0 0]) w:=by kernel_rfl
 first | (simp [h,Result.andThen]) | (rw [h]; rfl) | (erw [h]; rfl)
theorem BZ {o:Oper} {ac:Act} {a a':Option Addr} {c n' c':Nat} (x y:Operand) (ho:o.op=.build 73 #[(0,x),(2,y)]) (hx:ac.eval x=.slice a n c) (hy:ac.eval y=.slice a' n' c') :
  (execOp ac.eval o).run Tryz.prog w=.ok (.value (.agg #[.slice a n c,.slice none 0 0,.slice a' n' c',.slice none 0 0])) w:=by
 unfold execOp;simp only [ho,Sem.run_bind,Sem.run_pure];simp only [List.map_toArray,List.map_cons,List.map_nil,hx,hy]
 have h:(Instr.build 73 #[(0,.slice a n c),(2,.slice a' n' c')]).run Tryz.prog w=.ok (.agg #[.slice a n c,.slice none 0 0,.slice a' n' c',.slice none 0 0]) w:=by kernel_rfl
 first | (simp [h,Result.andThen]) | (rw [h]; rfl) | (erw [h]; rfl)
theorem Nv {o:Oper} {ac:Act} {a a':Option Addr} {c n' c':Nat} (x y:Operand) (ho:o.op=.build 73 #[(0,x),(3,y)]) (hx:ac.eval x=.slice a n c) (hy:ac.eval y=.slice a' n' c') :
  (execOp ac.eval o).run Tryz.prog w=.ok (.value (.agg #[.slice a n c,.slice none 0 0,.slice none 0 0,.slice a' n' c'])) w:=by
 unfold execOp;simp only [ho,Sem.run_bind,Sem.run_pure];simp only [List.map_toArray,List.map_cons,List.map_nil,hx,hy]
 have h:(Instr.build 73 #[(0,.slice a n c),(3,.slice a' n' c')]).run Tryz.prog w=.ok (.agg #[.slice a n c,.slice none 0 0,.slice none 0 0,.slice a' n' c']) w:=by kernel_rfl
 first | (simp [h,Result.andThen]) | (rw [h]; rfl) | (erw [h]; rfl)
theorem wj {o:Oper} {ac:Act} {a:Option Addr} {c:Nat} (x:Operand) (ho:o.op=.build 73 #[(0,x)]) (hx:ac.eval x=.slice a n c) :
  (execOp ac.eval o).run Tryz.prog w=.ok (.value (.agg #[.slice a n c,.slice none 0 0,.slice none 0 0,.slice none 0 0])) w:=by
 unfold execOp;simp only [ho,Sem.run_bind,Sem.run_pure];simp only [List.map_toArray,List.map_cons,List.map_nil,hx]
 have h:(Instr.build 73 #[(0,.slice a n c)]).run Tryz.prog w=.ok (.agg #[.slice a n c,.slice none 0 0,.slice none 0 0,.slice none 0 0]) w:=by kernel_rfl
 first | (simp [h,Result.andThen]) | (rw [h]; rfl) | (erw [h]; rfl)
theorem ky {o:Oper} {ac:Act} {T:TypeId} (x y:Operand) (ho:o.op=.build T #[(0,x),(1,y)]) (hx:ac.eval x=v1) (hy:ac.eval y=v2) (h:(Instr.build T #[(0,v1),(1,v2)]).run Tryz.prog w=.ok v w):(execOp ac.eval o).run Tryz.prog w=.ok (.value v) w:=by
 unfold execOp;simp only [ho,Sem.run_bind,Sem.run_pure];simp only [List.map_toArray,List.map_cons,List.map_nil,hx,hy]
 first | (simp [h,Result.andThen]) | (rw [h]; rfl) | (erw [h]; rfl)
theorem uD {a a':Option Addr} {c n' c':Nat} (w:World):(Instr.build 76 #[(0,.slice a n c),(1,.slice a' n' c')]).run Tryz.prog w=.ok (.agg #[.slice a n c,.slice a' n' c']) w/\(Instr.build 83 #[(0,.slice a n c),(1,.slice a' n' c')]).run Tryz.prog w=.ok (.agg #[.slice a n c,.slice a' n' c']) w/\(Instr.build 86 #[(0,.slice a n c),(1,.slice a' n' c')]).run Tryz.prog w=.ok (.agg #[.slice a n c,.slice a' n' c']) w :=
 ⟨by kernel_rfl,by kernel_rfl,by kernel_rfl⟩
theorem n_.one {n:Int} {oa:Option Addr} {on oc:Nat} {ra:Option Addr} {rn rc:Nat} (h:aW w (.slice oa on oc) (.slice ra rn rc) OO RR):n_ w.heap.size [(n,OO,RR)] (w.alloc (.cells #[.int .i64 n,.slice oa on oc,.slice ra rn rc] 25)) :=
 ⟨by simp,fun i hi=>by
  obtain rfl:i=0:=by simp at hi; omega
  exact ⟨oa,on,oc,ra,rn,rc,by rw [Rg.aL]; rfl,by rw [Rg.aL]; rfl,by rw [Rg.aL]; rfl,h.jj ((Below.refl _ _).alloc (Nat.le_refl _) _)⟩⟩
theorem o8 {l:List Int} (h:Rg.Ints w v l) (t:TypeId):Rg.Rows (w.alloc (.cells #[v] t)) (.slice (some ⟨w.heap.size,0,none⟩) 1 1) [l]:=by
 have hb:=(Below.refl w.heap.size w).alloc (Nat.le_refl _) (.cells #[v] t);refine ⟨[v],⟨some ⟨w.heap.size,0,none⟩,1,rfl,Nat.le_refl _,by unfold maxLen; omega,by simp [Rg.xe],fun _=>⟨w.heap.size,0,rfl,by simp,fun j hj=>?_⟩⟩,rfl,fun i p q=>?_⟩
 ·obtain rfl:j=0:=by simp at hj; omega
  rw [Rg.aL]; rfl
 ·obtain rfl:i=0:=by simp at p; omega
  exact Rg.Ints.jj h hb
theorem ju {l m:List Int} (h:Rg.Ints w v l) (h2:Rg.Ints w u m) (t:TypeId):Rg.Rows (w.alloc (.cells #[v,u] t)) (.slice (some ⟨w.heap.size,0,none⟩) 2 2) [l,m]:=by
 have hb:=(Below.refl w.heap.size w).alloc (Nat.le_refl _) (.cells #[v,u] t);refine ⟨[v,u],⟨some ⟨w.heap.size,0,none⟩,2,rfl,Nat.le_refl _,by unfold maxLen; omega,by simp [Rg.xe],fun _=>⟨w.heap.size,0,rfl,by simp,fun j hj=>?_⟩⟩,rfl,fun i p q=>?_⟩
 ·have:j=0∨j=1:=by simp at hj; omega
  rcases this with rfl | rfl <;> rw [Rg.aL] <;> rfl
 ·have:i=0∨i=1:=by simp at p; omega
  rcases this with rfl | rfl
  ·exact Rg.Ints.jj h hb
  ·exact Rg.Ints.jj h2 hb
structure pA (Fk:Nat->Prop) (sv tv:Value) (s t:List Int) (W:World):Prop where
 s:Rg.FI Fk W sv s
 t:Rg.FI Fk W tv t
theorem XE (h1:1<=N) (h2:N<=64) {x y:List Nat} (gx:Gd N x) (h:pA Fk xv yv (Ma.af x) (Ma.af y) W):lL N (.iface 76 (.agg #[xv,yv])) (fun g=>decide (dz x g=y)) Fk (pA Fk xv yv (Ma.af x) (Ma.af y)) W :=
 ⟨⟨⟨201,.agg #[xv,yv],fun gv W=>by kernel_rfl,fun W gv g hA hg gg=>Gu h1 h2 xv yv gv x y g W hA.s.ints hA.t.ints hg gx gg⟩,fun W W' hA hs=>⟨FI.same hA.s hs,FI.same hA.t hs⟩,fun C W W' hA hk hC=>⟨hA.s.kp hk hC,hA.t.kp hk hC⟩⟩,h⟩
theorem XF (h2:N<=64) {sv:Value} {s t:List Nat} (hs:∀ y∈s,y<N) (hl:s.length<=100000) (h:pA Fk sv tv (Ma.af s) (Ma.af t) W):lL N (.iface 83 (.agg #[sv,tv])) (fun g=>decide (Ob.jk (Ma.af (s.map (ap g)))=Ma.af t)) Fk (pA Fk sv tv (Ma.af s) (Ma.af t)) W :=
 ⟨⟨⟨204,.agg #[sv,tv],fun gv W=>by kernel_rfl,fun W gv g hA hg gg=>GA h2 sv tv gv s t g W hA.s.ints hA.t.ints hg hs hl gg⟩,fun W W' hA hs=>⟨FI.same hA.s hs,FI.same hA.t hs⟩,fun C W W' hA hk hC=>⟨hA.s.kp hk hC,hA.t.kp hk hC⟩⟩,h⟩
theorem XG (h2:N<=64) {sv:Value} {s t:List Nat} (hs:∀ y∈s,y<N) (hl:s.length<=100000) (h:pA Fk sv tv (Ma.af s) (Ma.af t) W):lL N (.iface 86 (.agg #[sv,tv])) (fun g=>decide (s.map (ap g)=t)) Fk (pA Fk sv tv (Ma.af s) (Ma.af t)) W :=
 ⟨⟨⟨206,.agg #[sv,tv],fun gv W=>by kernel_rfl,fun W gv g hA hg gg=>Gv h2 sv tv gv s t g W hA.s.ints hA.t.ints hg hs hl gg⟩,fun W W' hA hs=>⟨FI.same hA.s hs,FI.same hA.t hs⟩,fun C W W' hA hk hC=>⟨hA.s.kp hk hC,hA.t.kp hk hC⟩⟩,h⟩
theorem iL.sh {c0:gS} {Pb:List Nat->Bool} {e:Ending} (h:iL ck c0 Pb w e w'):∃ a n c k,e=.returned (.tuple #[.slice a n c,.int .i64 k]):=by
 rcases h.2 with ⟨_,h⟩ | ⟨_,N,O,R,_,(⟨_,h⟩ | ⟨k,x,_,_,_,h,hx⟩)⟩
 ·exact ⟨_,_,_,_,h⟩
 ·exact ⟨_,_,_,_,h⟩
 ·obtain ⟨n,a,c,_,rfl,_⟩:=hx.len
  exact ⟨_,_,_,_,h⟩
theorem iL.from {c0:gS} {Pb:List Nat->Bool} {e:Ending} (h:iL ck c0 Pb w e w') (hb:Below w0.heap.size w0 w):iL ck c0 Pb w0 e w':=⟨hb.trans (h.1.mono hb.size),h.2⟩
theorem iM.sh {c0:gS} {Pb:List Nat->Bool} {e:Ending} (h:iM ck c0 Pb w e w'):∃ i oa on oc ra rn rc k,e=.returned (.tuple #[.agg #[.int .i64 i,.slice oa on oc,.slice ra rn rc],.int .i64 k]):=by
 rcases h.2 with ⟨_,h⟩ | ⟨_,N,O,R,_,gs,oa,on,oc,ra,rn,rc,O',R',h,_⟩
 ·exact ⟨_,_,_,_,_,_,_,_,h⟩
 ·exact ⟨_,_,_,_,_,_,_,_,h⟩
theorem iM.kp {ck:Int} {c0:gS} {Pb:List Nat->Bool} {w0 w:World} {e:Ending} {w' w'':World} {b:Nat} (h:iM ck c0 Pb w e w') (hb:Below w0.heap.size w0 w) (hk:Rg.Kp (fun z=>z=b) w' w'') (h1:w0.heap.size<=b) (h2:b<w.heap.size):iM ck c0 Pb w0 e w'':=by
 refine ⟨Rg.Kp.jj (hb.trans (h.1.mono hb.size)) hk (fun z e=>by omega),?_⟩;have hs:=hb.size
 rcases h.2 with h | ⟨h0,N,O,R,hc,gs,oa,on,oc,ra,rn,rc,O',R',e,g1,g2,g3⟩
 ·exact .inl h
 ·exact .inr ⟨h0,N,O,R,hc,gs,oa,on,oc,ra,rn,rc,O',R',e,(g1.kp hk (fun z hz e=>by omega)).mono (fun z hz=>by omega),bg.mono (g2.kp hk (fun z hz e=>by omega)) (fun z hz=>by omega),g3⟩

def qM (xl yl:List Int) (g:List Nat):Bool:=decide (dz (nW xl) g=nW yl)
def qN (s t:List Int) (g:List Nat):Bool:=decide (Ob.jk (Ma.af ((nW s).map (ap g)))=Ma.af (nW t))
def wZ (s t:List Int) (g:List Nat):Bool:=decide ((nW s).map (ap g)=nW t)
theorem gI {o:Oper} {a:Act} (T:TypeId) (x y:Operand) (ho:o.op=.buildSlice T 2 #[(0,x),(1,y)]) (hx:a.eval x=u1) (hy:a.eval y=u2)
  (hr:(Instr.buildSlice T 2 #[(0,u1),(1,u2)]).run Tryz.prog w=.ok v w'):(execOp a.eval o).run Tryz.prog w=.ok (.value v) w':=by
 unfold execOp;simp [ho,hx,hy,hr,Result.andThen]
theorem Q5:(Tryz.prog.info? 26).map (fun i=>(i.zero,i.size,i.bytes))=some (some (.slice none 0 0),1,24):=by kernel_rfl
theorem Q6 (X:World) (a:Option Addr) (m c:Nat):(Instr.buildSlice 22 1 #[(0,.slice a m c)]).run Tryz.prog X=.ok (.slice (some ⟨X.heap.size,0,none⟩) 1 1) (X.alloc (.cells #[.slice a m c] 26)):=by
 obtain ⟨i0,hi,cT,bz,dW⟩:=info_parts Q5;refine run_buildSlice X 22 26 1 _ _ i0 _ Tryz.underlying22 hi cT (by rw [bz]; decide) (by rw [bz]; decide) ?_;generalize (fun x=>((Value.slice none 0 0).cells)[x % (Value.slice none 0 0).cells.size]!)=f;rw [bz];have h1:Array.range (1*1)=#[0]:=rfl;simp [Instr.fill,Value.cells,h1]
theorem G4 (X:World) (a:Option Addr) (m c:Nat) (a':Option Addr) (m' c':Nat):(Instr.buildSlice 22 2 #[(0,.slice a m c),(1,.slice a' m' c')]).run Tryz.prog X=.ok (.slice (some ⟨X.heap.size,0,none⟩) 2 2) (X.alloc (.cells #[.slice a m c,.slice a' m' c'] 26)):=by
 obtain ⟨i0,hi,cT,bz,dW⟩:=info_parts Q5;refine run_buildSlice X 22 26 2 _ _ i0 _ Tryz.underlying22 hi cT (by rw [bz]; decide) (by rw [bz]; decide) ?_;generalize (fun x=>((Value.slice none 0 0).cells)[x % (Value.slice none 0 0).cells.size]!)=f;rw [bz];have h1:Array.range (2*1)=#[0,1]:=rfl;simp [Instr.fill,Value.cells,h1]
theorem Q7 {n:Int} (hn:n=((N:Nat):Int)) (h1:Ma.bB xl=0) (h2:(xl.length:Int)=n):∃ x,xl=Ma.af x/\Gd N x:=by
 obtain ⟨x,rfl,hx⟩:=Ma.lQ (Ma.jh h1).2.2;rw [Ma.az] at h2;exact ⟨x,rfl,hx,by omega⟩
theorem xL {n:Int} (hn:n=((N:Nat):Int)) {s:List Int} (h:¬ s.any (i_ n)=true):∃ q,s=Ma.af q/\∀ y∈q,y<N:=by
 have hh:∀ y∈s,0<=y/\y<n:=fun y hy=>by
  refine Classical.byContradiction fun hc=>h (List.any_eq_true.2 ⟨y,hy,?_⟩);unfold i_;simp;omega
 clear h
 induction s with
 | nil=>exact ⟨[],rfl,fun y hy=>by simp at hy⟩
 | cons y l ih =>
  obtain ⟨q,rfl,hq⟩:=ih fun z hz=>hh z (List.mem_cons_of_mem _ hz);obtain ⟨h0,h1⟩:=hh y (List.mem_cons_self ..);refine ⟨y.toNat :: q,?_,fun z hz=>?_⟩
  ·show y :: Ma.af q=((y.toNat:Nat):Int) :: Ma.af q
   rw [Int.toNat_of_nonneg h0]
  ·rcases List.mem_cons.1 hz with rfl | hz
   ·omega
   ·exact hq z hz
theorem zH {n:Int}:∀ {SS:List (List Int)},jC n SS=0->∀ s∈SS,j2 n s=0
 | [],_,_,hc=>by simp at hc
 | c :: l,h,d,hd=>by
  rw [jC] at h
  by_cases e:j2 n c=0
  ·rw [if_pos e] at h
   rcases List.mem_cons.1 hd with rfl | hd
   ·exact e
   ·exact zH h d hd
  ·rw [if_neg e] at h; exact absurd h e
theorem zI {n:Int}:∀ {SS:List (List Int)},ku n SS=0->∀ s∈SS,lA n s=0
 | [],_,_,hc=>by simp at hc
 | c :: l,h,d,hd=>by
  rw [ku] at h
  by_cases e:lA n c=0
  ·rw [if_pos e] at h
   rcases List.mem_cons.1 hd with rfl | hd
   ·exact e
   ·exact zI h d hd
  ·rw [if_neg e] at h; exact absurd h e
theorem G6 {n:Int} {s:List Int} (h:j2 n s=0):¬ s.any (i_ n)=true/\pz s:=by
 unfold j2 at h
 by_cases h1:s.any (i_ n)=true
 ·rw [if_pos h1] at h; exact absurd h (by decide)
 ·rw [if_neg h1] at h
  refine ⟨h1,?_⟩
  by_cases h2:pz s
  ·exact h2
  ·rw [if_neg h2] at h; exact absurd h (by decide)
theorem G7 {n:Int} {s:List Int} (h:lA n s=0):s.length<=64/\¬ s.any (i_ n)=true:=by
 unfold lA at h
 by_cases h1:64<s.length
 ·rw [if_pos h1] at h; exact absurd h (by decide)
 ·rw [if_neg h1] at h
  refine ⟨by omega,fun h2=>?_⟩;rw [if_pos h2] at h; exact absurd h (by decide)
theorem zJ {n:Int} {l:List gS} (h:ks ((n,OO,RR) :: l)=0):∃ N:Nat,n=((N:Nat):Int)/\1<=N/\N<=64/\n.toNat=N:=by
 obtain ⟨N,O,R,en,h1,h2,_⟩:=fa (oh h _ (List.mem_cons_self ..));exact ⟨N,en,h1,h2,by simp only at en; omega⟩
section
variable {n:Int} {OO:List (List Int)} {RR:List (List (List Int))} {l:List gS} {Fk:Nat->Prop} {sv tv:Value} {s t:List Int} {W:World} {PS SS TS:List (List Int)} {c0:gS}
theorem G8 (h:gL n ((n,OO,RR) :: l) PS SS TS c0=0) (hs:s∈PS) (hn:n=((N:Nat):Int)):∃ x,s=Ma.af x/\Gd N x:=by
 obtain ⟨_,h2,h3,_⟩:=iG h;refine Q7 hn (v7 h2 s hs) (Classical.byContradiction fun hc=>h3 (.inr (List.any_eq_true.2 ⟨s,hs,?_⟩)));exact decide_eq_true hc
theorem Q8 (h:gL n ((n,OO,RR) :: l) PS SS TS c0=0) (hs:s∈PS) (ht:t∈PS) (hA:pA Fk sv tv s t W):lL n.toNat (.iface 76 (.agg #[sv,tv])) (qM s t) Fk (pA Fk sv tv s t) W:=by
 obtain ⟨N,en,h1,h2,h3⟩:=zJ (iG h).1;obtain ⟨x,rfl,gx⟩:=G8 h hs en;obtain ⟨y,rfl,gy⟩:=G8 h ht en;rw [h3];have:=XE h1 h2 gx hA;unfold qM;rw [dn,dn];exact this
theorem Q9 (h:gL n ((n,OO,RR) :: l) PS SS TS c0=0) (hs:s∈SS) (ht:t∈SS) (hl:s.length<=100) (hA:pA Fk sv tv s t W):lL n.toNat (.iface 83 (.agg #[sv,tv])) (qN s t) Fk (pA Fk sv tv s t) W:=by
 obtain ⟨N,en,h1,h2,h3⟩:=zJ (iG h).1;have h4:=(iG h).2.2.2.1;obtain ⟨x,rfl,gx⟩:=xL en (G6 (zH h4 _ hs)).1;obtain ⟨y,rfl,gy⟩:=xL en (G6 (zH h4 _ ht)).1;rw [h3];rw [Ma.az] at hl;have:=XF h2 gx (by omega) hA;unfold qN;rw [dn,dn];exact this
theorem XH (h:gL n ((n,OO,RR) :: l) PS SS TS c0=0) (hs:s∈TS) (ht:t∈TS) (hl:s.length<=100) (hA:pA Fk sv tv s t W):lL n.toNat (.iface 86 (.agg #[sv,tv])) (wZ s t) Fk (pA Fk sv tv s t) W:=by
 obtain ⟨N,en,h1,h2,h3⟩:=zJ (iG h).1;have h4:=(iG h).2.2.2.2.1;obtain ⟨x,rfl,gx⟩:=xL en (G7 (zI h4 _ hs)).2;obtain ⟨y,rfl,gy⟩:=xL en (G7 (zI h4 _ ht)).2;rw [h3];rw [Ma.az] at hl;have:=XG h2 gx (by omega) hA;unfold wZ;rw [dn,dn];exact this
end
theorem iL.calls {f:FuncId} {args:Array Value} {c0:gS} {Pb:List Nat->Bool} (h:Calls Tryz.prog f args w (iL ck c0 Pb w)):Calls Tryz.prog f args w fun e w'=>∃ a m c k,e=.returned (.tuple #[.slice a m c,.int .i64 k])/\iL ck c0 Pb w (.returned (.tuple #[.slice a m c,.int .i64 k])) w'/\Below w.heap.size w w' :=
 h.mono fun e w' hr=>by
  obtain ⟨a,m,c,k,rfl⟩:=hr.sh;exact ⟨a,m,c,k,rfl,hr,hr.1⟩
theorem iM.calls {f:FuncId} {args:Array Value} {c0:gS} {Pb:List Nat->Bool} (h:Calls Tryz.prog f args w (iM ck c0 Pb w)):Calls Tryz.prog f args w fun e w'=>∃ i oa on oc ra rn rc k,e=.returned (.tuple #[.agg #[.int .i64 i,.slice oa on oc,.slice ra rn rc],.int .i64 k])/\iM ck c0 Pb w (.returned (.tuple #[.agg #[.int .i64 i,.slice oa on oc,.slice ra rn rc],.int .i64 k])) w'/\Below w.heap.size w w' :=
 h.mono fun e w' hr=>by
  obtain ⟨i,oa,on,oc,ra,rn,rc,k,rfl⟩:=hr.sh;exact ⟨i,oa,on,oc,ra,rn,rc,k,rfl,hr,hr.1⟩

def XI (N:Nat) (g x y:List Nat):Bool:=decide (∀ i,i<N->ap y (ap g i)=ap g (ap x i))
def TY (g s t:List Nat):Bool:=decide (s.length=t.length/\∀ y∈s,ap g y∈t)
theorem Vl {x:Nat} {t:List Nat}:((x:Nat):Int)∈Ma.af t↔x∈t:=by
 unfold Ma.af;rw [List.mem_map];exact ⟨fun ⟨y,h1,h2⟩=>by have:y=x:=(by omega); exact this▸h1,fun h=>⟨x,h,rfl⟩⟩

theorem BR.congr {LL:List (List Nat)} {Pb JS:List Nat->Bool} {e:Ending} (h:BR LL Pb e w) (hp:∀ g∈LL,Pb g=JS g):BR LL JS e w:=by
 have hh:∀ i,i<LL.length->Pb (LL.getD i [])=JS (LL.getD i []):=fun i hi=>hp _ (by
  rw [List.getD_eq_getElem?_getD,List.getElem?_eq_getElem hi]; exact List.getElem_mem hi)
 rcases h with ⟨h1,h2⟩ | ⟨k,x,h1,h2,h3,h4,h5⟩
 ·exact .inl ⟨fun i hi=>by rw [<- hh i hi]; exact h1 i hi,h2⟩
 ·exact .inr ⟨k,x,h1,by rw [<- hh k h1]; exact h2,fun i hi=>by rw [<- hh i (by omega)]; exact h3 i hi,h4,h5⟩

theorem Q_:uz (((N:Nat):Int),O.map Ma.af,R.map (List.map Ma.af))=if cn O N N<=5040 then 0 else 5:=by
 unfold uz;simp only [kO,Int.toNat_natCast]

theorem JT (args:Array Value) (w:World):(callFunc 63 args).run Tryz.prog w=.ok (.enter 63 args) w:=by kernel_rfl
theorem zK (args:Array Value) (w:World):(callFunc 52 args).run Tryz.prog w=.ok (.enter 52 args) w:=by kernel_rfl
theorem pB {n:Int} {s t:List Int} (h:aW w ov rv OO RR) (hn:n<=12) (hx:Rg.Ints w xv s) (hy:Rg.Ints w yv t)  :
  Calls Tryz.prog 18 #[.agg #[.int .i64 n,ov,rv],xv,yv] w (iL (gL n [(n,OO,RR)] [s,t] [] [] (n,OO,RR)) (n,OO,RR) (qM s t) w):=by
 obtain ⟨oa,oc,rfl,-⟩:=h.1.shape;obtain ⟨ra,rc,rfl⟩:=h.2.shape;obtain ⟨on,iz⟩:∃ n,Hid (OO.length=n):=⟨_,U rfl⟩;obtain ⟨rn,iV⟩:∃ n,Hid (RR.length=n):=⟨_,U rfl⟩;rw [iz.p,iV.p] at h;rw [iz.p,iV.p];have CE:=U h;have K:=U (Below.refl w.heap.size w);obtain ⟨m1,xa,xc,lF,rfl,-⟩:=hx.len;obtain ⟨m2,ya,yc,jF,rfl,-⟩:=hy.len;have FX:=U (Rg.FI.nH hx);have FY:=U (Rg.FI.nH hy);clear h hx hy
 go_enter Tryz.func18,Tryz.ntmps18
 go_upto_region 0 with (fail);refine c6 ?_;have aF:=eY w (.int .i64 n) (.slice oa on oc) (.slice ra rn rc);refine d4 3 (Rg.aY _ _ rfl rfl) ?_;go_frame;have hb:=(Below.refl w.heap.size w).alloc (Nat.le_refl _) (.cells #[.int .i64 n,.slice oa on oc,.slice ra rn rc] 25);generalize w.alloc (.cells #[.int .i64 n,.slice oa on oc,.slice ra rn rc] 25)=w1 at *;replace CE:=U (CE.p.jj hb);replace FX:=U (FX.p.jj hb);replace FY:=U (FY.p.jj hb);replace K:=U (Rg.acc K.p hb);clear hb;have A0:=U aF.1;have A1:=U aF.2.1;have A2:=U aF.2.2;clear aF;refine d6 6 (.slice none 0 0) ?_;go_frame;refine d6 7 (.int .i64 ((0:Nat):Int)) ?_;go_frame;go_upto_region 1 with (fail);refine c6 ?_;refine d4 8 (g9 ((.agg #[.int .i64 n,.slice oa on oc,.slice ra rn rc])) ⟨w.heap.size,0,none⟩ (aq A0.p.cell A1.p.cell A2.p.cell)) ?_;go_frame
 have jG:=n_.one (n:=n) CE.p;refine d4 9 (Rg.aN _ _ _ rfl (.agg #[.int .i64 n,.slice oa on oc,.slice ra rn rc]) rfl (qK w1 ..)) ?_;go_frame;have hb:=(Below.refl w1.heap.size w1).alloc (Nat.le_refl _) (.cells #[.int .i64 n,.slice oa on oc,.slice ra rn rc] 25);generalize w1.alloc (.cells #[.int .i64 n,.slice oa on oc,.slice ra rn rc] 25)=w2 at *;replace CE:=U (CE.p.jj hb);replace FX:=U (FX.p.jj hb);replace FY:=U (FY.p.jj hb);replace A0:=U (A0.p.jj hb);replace A1:=U (A1.p.jj hb);replace A2:=U (A2.p.jj hb);replace K:=U (Rg.acc K.p hb);clear hb;have CS:=U jG;clear jG;refine d5 10 (.slice xa m1 xc) ?_;go_frame;refine d5 11 (.slice ya m2 yc) ?_;go_frame;have hro:=iR.mk (ju FX.p.ints FY.p.ints 27);refine d4 12 (gI _ _ _ rfl rfl rfl (qL w2 ..)) ?_;go_frame;have hb:=(Below.refl w2.heap.size w2).alloc (Nat.le_refl _) (.cells #[.slice xa m1 xc,.slice ya m2 yc] 27)
 generalize w2.alloc (.cells #[.slice xa m1 xc,.slice ya m2 yc] 27)=w3 at *;replace CE:=U (CE.p.jj hb);replace FX:=U (FX.p.jj hb);replace FY:=U (FY.p.jj hb);replace A0:=U (A0.p.jj hb);replace A1:=U (A1.p.jj hb);replace A2:=U (A2.p.jj hb);replace CS:=U (CS.p.jj hb);replace K:=U (Rg.acc K.p hb);clear hb;have RO:=U hro;clear hro;refine d4 13 (BV _ _ rfl rfl rfl) ?_;go_frame;refine d5 14 (.slice xa m1 xc) ?_;go_frame;refine d5 15 (.slice ya m2 yc) ?_;go_frame;refine d4 16 (ky _ _ rfl rfl rfl (uD _).1) ?_;go_frame;refine d4 17 (jz _ _ rfl rfl (QZ _ _)) ?_;go_frame;refine f8 18 (aj 63 _ _ _ rfl rfl rfl (JT _ _)) ?_;refine ((iL.calls (oZ (CS:=[(n,OO,RR)]) (cc:=1) CS.p (by simp) (by simp) RO.p.r (by simp) (cz _) (by simp) (by simp) (cz _) (by simp) (by simp) hn (Fk:=fun z=>z<w.heap.size) (fun h0=>⟨Q8 h0 (by simp) (by simp) ⟨FX.p,FY.p⟩,fun z hz=>Nat.lt_of_lt_of_le hz K.p.size⟩)))).mono ?_
 rintro e1 w4 ⟨im,G_,gR,kz,rfl,lJ,hb⟩;have sR:=U (lJ.from K.p);clear lJ;refine ⟨_,rfl,?_⟩;go_frame;replace CE:=U (CE.p.jj hb);replace FX:=U (FX.p.jj hb);replace FY:=U (FY.p.jj hb);replace A0:=U (A0.p.jj hb);replace A1:=U (A1.p.jj hb);replace A2:=U (A2.p.jj hb);replace CS:=U (CS.p.jj hb);replace RO:=U (RO.p.jj hb);replace K:=U (Rg.acc K.p hb);clear hb;refine d4 19 (i7 (.slice im G_ gR)) ?_;go_frame;refine d4 20 (i7 (.int .i64 kz)) ?_;go_frame;refine d6 6 (.slice im G_ gR) ?_;go_frame;refine d6 7 (.int .i64 kz) ?_;go_frame;go_wp2
 go_ret2
 exact sR.p
theorem Hb {n:Int} {s t:List Int} (h:aW w ov rv OO RR) (hn:n<=12) (hx:Rg.Ints w xv s) (hy:Rg.Ints w yv t) (lC:s.length<=100) (rX:t.length<=100) :
  Calls Tryz.prog 21 #[.agg #[.int .i64 n,ov,rv],xv,yv] w (iL (gL n [(n,OO,RR)] [] [s,t] [] (n,OO,RR)) (n,OO,RR) (qN s t) w):=by
 obtain ⟨oa,oc,rfl,-⟩:=h.1.shape;obtain ⟨ra,rc,rfl⟩:=h.2.shape;obtain ⟨on,iz⟩:∃ n,Hid (OO.length=n):=⟨_,U rfl⟩;obtain ⟨rn,iV⟩:∃ n,Hid (RR.length=n):=⟨_,U rfl⟩;rw [iz.p,iV.p] at h;rw [iz.p,iV.p];have CE:=U h;have K:=U (Below.refl w.heap.size w);obtain ⟨m1,xa,xc,lF,rfl,-⟩:=hx.len;obtain ⟨m2,ya,yc,jF,rfl,-⟩:=hy.len;have FX:=U (Rg.FI.nH hx);have FY:=U (Rg.FI.nH hy);clear h hx hy
 go_enter Tryz.func21,Tryz.ntmps21
 go_upto_region 0 with (fail);refine c6 ?_;have aF:=eY w (.int .i64 n) (.slice oa on oc) (.slice ra rn rc);refine d4 3 (Rg.aY _ _ rfl rfl) ?_;go_frame;have hb:=(Below.refl w.heap.size w).alloc (Nat.le_refl _) (.cells #[.int .i64 n,.slice oa on oc,.slice ra rn rc] 25);generalize w.alloc (.cells #[.int .i64 n,.slice oa on oc,.slice ra rn rc] 25)=w1 at *;replace CE:=U (CE.p.jj hb);replace FX:=U (FX.p.jj hb);replace FY:=U (FY.p.jj hb);replace K:=U (Rg.acc K.p hb);clear hb;have A0:=U aF.1;have A1:=U aF.2.1;have A2:=U aF.2.2;clear aF;refine d6 6 (.slice none 0 0) ?_;go_frame;refine d6 7 (.int .i64 ((0:Nat):Int)) ?_;go_frame;go_upto_region 1 with (fail);refine c6 ?_;refine d4 8 (g9 ((.agg #[.int .i64 n,.slice oa on oc,.slice ra rn rc])) ⟨w.heap.size,0,none⟩ (aq A0.p.cell A1.p.cell A2.p.cell)) ?_;go_frame
 have jG:=n_.one (n:=n) CE.p;refine d4 9 (Rg.aN _ _ _ rfl (.agg #[.int .i64 n,.slice oa on oc,.slice ra rn rc]) rfl (qK w1 ..)) ?_;go_frame;have hb:=(Below.refl w1.heap.size w1).alloc (Nat.le_refl _) (.cells #[.int .i64 n,.slice oa on oc,.slice ra rn rc] 25);generalize w1.alloc (.cells #[.int .i64 n,.slice oa on oc,.slice ra rn rc] 25)=w2 at *;replace CE:=U (CE.p.jj hb);replace FX:=U (FX.p.jj hb);replace FY:=U (FY.p.jj hb);replace A0:=U (A0.p.jj hb);replace A1:=U (A1.p.jj hb);replace A2:=U (A2.p.jj hb);replace K:=U (Rg.acc K.p hb);clear hb;have CS:=U jG;clear jG;refine d5 10 (.slice xa m1 xc) ?_;go_frame;refine d5 11 (.slice ya m2 yc) ?_;go_frame;have hro:=iR.mk (ju FX.p.ints FY.p.ints 26);refine d4 12 (gI _ _ _ rfl rfl rfl (G4 w2 ..)) ?_;go_frame;have hb:=(Below.refl w2.heap.size w2).alloc (Nat.le_refl _) (.cells #[.slice xa m1 xc,.slice ya m2 yc] 26)
 generalize w2.alloc (.cells #[.slice xa m1 xc,.slice ya m2 yc] 26)=w3 at *;replace CE:=U (CE.p.jj hb);replace FX:=U (FX.p.jj hb);replace FY:=U (FY.p.jj hb);replace A0:=U (A0.p.jj hb);replace A1:=U (A1.p.jj hb);replace A2:=U (A2.p.jj hb);replace CS:=U (CS.p.jj hb);replace K:=U (Rg.acc K.p hb);clear hb;have RO:=U hro;clear hro;refine d4 13 (BZ _ _ rfl rfl rfl) ?_;go_frame;refine d5 14 (.slice xa m1 xc) ?_;go_frame;refine d5 15 (.slice ya m2 yc) ?_;go_frame;refine d4 16 (ky _ _ rfl rfl rfl (uD _).2.1) ?_;go_frame;refine d4 17 (jz _ _ rfl rfl (Q0 _ _)) ?_;go_frame;refine f8 18 (aj 63 _ _ _ rfl rfl rfl (JT _ _)) ?_;refine ((iL.calls (oZ (CS:=[(n,OO,RR)]) (cc:=1) CS.p (by simp) (by simp) (cz _) (by simp) RO.p.r (by simp) (by simp [lC,rX]) (cz _) (by simp) (by simp) hn (Fk:=fun z=>z<w.heap.size) (fun h0=>⟨Q9 h0 (by simp) (by simp) lC ⟨FX.p,FY.p⟩,fun z hz=>Nat.lt_of_lt_of_le hz K.p.size⟩)))).mono ?_
 rintro e1 w4 ⟨im,G_,gR,kz,rfl,lJ,hb⟩;have sR:=U (lJ.from K.p);clear lJ;refine ⟨_,rfl,?_⟩;go_frame;replace CE:=U (CE.p.jj hb);replace FX:=U (FX.p.jj hb);replace FY:=U (FY.p.jj hb);replace A0:=U (A0.p.jj hb);replace A1:=U (A1.p.jj hb);replace A2:=U (A2.p.jj hb);replace CS:=U (CS.p.jj hb);replace RO:=U (RO.p.jj hb);replace K:=U (Rg.acc K.p hb);clear hb;refine d4 19 (i7 (.slice im G_ gR)) ?_;go_frame;refine d4 20 (i7 (.int .i64 kz)) ?_;go_frame;refine d6 6 (.slice im G_ gR) ?_;go_frame;refine d6 7 (.int .i64 kz) ?_;go_frame;go_wp2
 go_ret2
 exact sR.p
theorem A3 {n:Int} {s t:List Int} (h:aW w ov rv OO RR) (hn:n<=12) (hx:Rg.Ints w xv s) (hy:Rg.Ints w yv t) (lC:s.length<=100) (rX:t.length<=100) :
  Calls Tryz.prog 23 #[.agg #[.int .i64 n,ov,rv],xv,yv] w (iL (gL n [(n,OO,RR)] [] [] [s,t] (n,OO,RR)) (n,OO,RR) (wZ s t) w):=by
 obtain ⟨oa,oc,rfl,-⟩:=h.1.shape;obtain ⟨ra,rc,rfl⟩:=h.2.shape;obtain ⟨on,iz⟩:∃ n,Hid (OO.length=n):=⟨_,U rfl⟩;obtain ⟨rn,iV⟩:∃ n,Hid (RR.length=n):=⟨_,U rfl⟩;rw [iz.p,iV.p] at h;rw [iz.p,iV.p];have CE:=U h;have K:=U (Below.refl w.heap.size w);obtain ⟨m1,xa,xc,lF,rfl,-⟩:=hx.len;obtain ⟨m2,ya,yc,jF,rfl,-⟩:=hy.len;have FX:=U (Rg.FI.nH hx);have FY:=U (Rg.FI.nH hy);clear h hx hy
 go_enter Tryz.func23,Tryz.ntmps23
 go_upto_region 0 with (fail);refine c6 ?_;have aF:=eY w (.int .i64 n) (.slice oa on oc) (.slice ra rn rc);refine d4 3 (Rg.aY _ _ rfl rfl) ?_;go_frame;have hb:=(Below.refl w.heap.size w).alloc (Nat.le_refl _) (.cells #[.int .i64 n,.slice oa on oc,.slice ra rn rc] 25);generalize w.alloc (.cells #[.int .i64 n,.slice oa on oc,.slice ra rn rc] 25)=w1 at *;replace CE:=U (CE.p.jj hb);replace FX:=U (FX.p.jj hb);replace FY:=U (FY.p.jj hb);replace K:=U (Rg.acc K.p hb);clear hb;have A0:=U aF.1;have A1:=U aF.2.1;have A2:=U aF.2.2;clear aF;refine d6 6 (.slice none 0 0) ?_;go_frame;refine d6 7 (.int .i64 ((0:Nat):Int)) ?_;go_frame;go_upto_region 1 with (fail);refine c6 ?_;refine d4 8 (g9 ((.agg #[.int .i64 n,.slice oa on oc,.slice ra rn rc])) ⟨w.heap.size,0,none⟩ (aq A0.p.cell A1.p.cell A2.p.cell)) ?_;go_frame
 have jG:=n_.one (n:=n) CE.p;refine d4 9 (Rg.aN _ _ _ rfl (.agg #[.int .i64 n,.slice oa on oc,.slice ra rn rc]) rfl (qK w1 ..)) ?_;go_frame;have hb:=(Below.refl w1.heap.size w1).alloc (Nat.le_refl _) (.cells #[.int .i64 n,.slice oa on oc,.slice ra rn rc] 25);generalize w1.alloc (.cells #[.int .i64 n,.slice oa on oc,.slice ra rn rc] 25)=w2 at *;replace CE:=U (CE.p.jj hb);replace FX:=U (FX.p.jj hb);replace FY:=U (FY.p.jj hb);replace A0:=U (A0.p.jj hb);replace A1:=U (A1.p.jj hb);replace A2:=U (A2.p.jj hb);replace K:=U (Rg.acc K.p hb);clear hb;have CS:=U jG;clear jG;refine d5 10 (.slice xa m1 xc) ?_;go_frame;refine d5 11 (.slice ya m2 yc) ?_;go_frame;have hro:=iR.mk (ju FX.p.ints FY.p.ints 26);refine d4 12 (gI _ _ _ rfl rfl rfl (G4 w2 ..)) ?_;go_frame;have hb:=(Below.refl w2.heap.size w2).alloc (Nat.le_refl _) (.cells #[.slice xa m1 xc,.slice ya m2 yc] 26)
 generalize w2.alloc (.cells #[.slice xa m1 xc,.slice ya m2 yc] 26)=w3 at *;replace CE:=U (CE.p.jj hb);replace FX:=U (FX.p.jj hb);replace FY:=U (FY.p.jj hb);replace A0:=U (A0.p.jj hb);replace A1:=U (A1.p.jj hb);replace A2:=U (A2.p.jj hb);replace CS:=U (CS.p.jj hb);replace K:=U (Rg.acc K.p hb);clear hb;have RO:=U hro;clear hro;refine d4 13 (Nv _ _ rfl rfl rfl) ?_;go_frame;refine d5 14 (.slice xa m1 xc) ?_;go_frame;refine d5 15 (.slice ya m2 yc) ?_;go_frame;refine d4 16 (ky _ _ rfl rfl rfl (uD _).2.2) ?_;go_frame;refine d4 17 (jz _ _ rfl rfl (XD _ _)) ?_;go_frame;refine f8 18 (aj 63 _ _ _ rfl rfl rfl (JT _ _)) ?_;refine ((iL.calls (oZ (CS:=[(n,OO,RR)]) (cc:=1) CS.p (by simp) (by simp) (cz _) (by simp) (cz _) (by simp) (by simp) RO.p.r (by simp) (by simp [lC,rX]) hn (Fk:=fun z=>z<w.heap.size) (fun h0=>⟨XH h0 (by simp) (by simp) lC ⟨FX.p,FY.p⟩,fun z hz=>Nat.lt_of_lt_of_le hz K.p.size⟩)))).mono ?_
 rintro e1 w4 ⟨im,G_,gR,kz,rfl,lJ,hb⟩;have sR:=U (lJ.from K.p);clear lJ;refine ⟨_,rfl,?_⟩;go_frame;replace CE:=U (CE.p.jj hb);replace FX:=U (FX.p.jj hb);replace FY:=U (FY.p.jj hb);replace A0:=U (A0.p.jj hb);replace A1:=U (A1.p.jj hb);replace A2:=U (A2.p.jj hb);replace CS:=U (CS.p.jj hb);replace RO:=U (RO.p.jj hb);replace K:=U (Rg.acc K.p hb);clear hb;refine d4 19 (i7 (.slice im G_ gR)) ?_;go_frame;refine d4 20 (i7 (.int .i64 kz)) ?_;go_frame;refine d6 6 (.slice im G_ gR) ?_;go_frame;refine d6 7 (.int .i64 kz) ?_;go_frame;go_wp2
 go_ret2
 exact sR.p
theorem wm {n:Int} {s:List Int} (h:aW w ov rv OO RR) (hn:n<=12) (hx:Rg.Ints w xv s)  :
  Calls Tryz.prog 11 #[.agg #[.int .i64 n,ov,rv],xv] w (iM (gL n [(n,OO,RR)] [s] [] [] (n,OO,RR)) (n,OO,RR) (qM s s) w):=by
 obtain ⟨oa,oc,rfl,-⟩:=h.1.shape;obtain ⟨ra,rc,rfl⟩:=h.2.shape;obtain ⟨on,iz⟩:∃ n,Hid (OO.length=n):=⟨_,U rfl⟩;obtain ⟨rn,iV⟩:∃ n,Hid (RR.length=n):=⟨_,U rfl⟩;rw [iz.p,iV.p] at h;rw [iz.p,iV.p];have CE:=U h;have K:=U (Below.refl w.heap.size w);obtain ⟨m1,xa,xc,lF,rfl,-⟩:=hx.len;have FX:=U (Rg.FI.nH hx);clear h hx
 go_enter Tryz.func11,Tryz.ntmps11
 go_upto_region 0 with (fail);refine c6 ?_;have aF:=eY w (.int .i64 n) (.slice oa on oc) (.slice ra rn rc);refine d4 2 (Rg.aY _ _ rfl rfl) ?_;go_frame;have hb:=(Below.refl w.heap.size w).alloc (Nat.le_refl _) (.cells #[.int .i64 n,.slice oa on oc,.slice ra rn rc] 25);generalize w.alloc (.cells #[.int .i64 n,.slice oa on oc,.slice ra rn rc] 25)=w1 at *;replace CE:=U (CE.p.jj hb);replace FX:=U (FX.p.jj hb);replace K:=U (Rg.acc K.p hb);clear hb;have A0:=U aF.1;have A1:=U aF.2.1;have A2:=U aF.2.2;clear aF;have mQ:=U K.p.size;have bX:=bM.new w1 (.int .i64 0) (.slice none 0 0) (.slice none 0 0);refine d4 4 (aU rfl) ?_;go_frame;have hb:=(Below.refl w1.heap.size w1).alloc (Nat.le_refl _) (.cells #[.int .i64 0,.slice none 0 0,.slice none 0 0] 25);generalize w1.alloc (.cells #[.int .i64 0,.slice none 0 0,.slice none 0 0] 25)=w2 at *
 replace CE:=U (CE.p.jj hb);replace FX:=U (FX.p.jj hb);replace A0:=U (A0.p.jj hb);replace A1:=U (A1.p.jj hb);replace A2:=U (A2.p.jj hb);replace K:=U (Rg.acc K.p hb);clear hb;have C4:=U bX;clear bX;refine d6 5 (.int .i64 ((0:Nat):Int)) ?_;go_frame;go_upto_region 1 with (fail);refine c6 ?_;refine d4 6 (g9 ((.agg #[.int .i64 n,.slice oa on oc,.slice ra rn rc])) ⟨w.heap.size,0,none⟩ (aq A0.p.cell A1.p.cell A2.p.cell)) ?_;go_frame;have jG:=n_.one (n:=n) CE.p;refine d4 7 (Rg.aN _ _ _ rfl (.agg #[.int .i64 n,.slice oa on oc,.slice ra rn rc]) rfl (qK w2 ..)) ?_;go_frame;have hb:=(Below.refl w2.heap.size w2).alloc (Nat.le_refl _) (.cells #[.int .i64 n,.slice oa on oc,.slice ra rn rc] 25);generalize w2.alloc (.cells #[.int .i64 n,.slice oa on oc,.slice ra rn rc] 25)=w3 at *;replace CE:=U (CE.p.jj hb)
 replace FX:=U (FX.p.jj hb);replace A0:=U (A0.p.jj hb);replace A1:=U (A1.p.jj hb);replace A2:=U (A2.p.jj hb);replace C4:=U (C4.p.jj hb);replace K:=U (Rg.acc K.p hb);clear hb;have CS:=U jG;clear jG;refine d5 8 (.slice xa m1 xc) ?_;go_frame;have hro:=iR.mk (o8 FX.p.ints 27);refine d4 9 (Rg.aN _ _ _ rfl (.slice xa m1 xc) rfl (dx w3 _ ⟨_,_,_,rfl⟩)) ?_;go_frame;have hb:=(Below.refl w3.heap.size w3).alloc (Nat.le_refl _) (.cells #[.slice xa m1 xc] 27);generalize w3.alloc (.cells #[.slice xa m1 xc] 27)=w4 at *;replace CE:=U (CE.p.jj hb);replace FX:=U (FX.p.jj hb);replace A0:=U (A0.p.jj hb);replace A1:=U (A1.p.jj hb);replace A2:=U (A2.p.jj hb);replace C4:=U (C4.p.jj hb);replace CS:=U (CS.p.jj hb);replace K:=U (Rg.acc K.p hb);clear hb;have RO:=U hro;clear hro
 refine d4 10 (BV _ _ rfl rfl rfl) ?_;go_frame;refine d5 11 (.slice xa m1 xc) ?_;go_frame;refine d5 12 (.slice xa m1 xc) ?_;go_frame;refine d4 13 (ky _ _ rfl rfl rfl (uD _).1) ?_;go_frame;refine d4 14 (jz _ _ rfl rfl (QZ _ _)) ?_;go_frame;have DT:=U C4.p.lt;refine f8 15 (aj 52 _ _ _ rfl rfl rfl (zK _ _)) ?_;refine ((iM.calls (kT (CS:=[(n,OO,RR)]) (cc:=1) CS.p (by simp) (by simp) RO.p.r (by simp) (cz _) (by simp) (by simp) (cz _) (by simp) (by simp) hn (Fk:=fun z=>z<w.heap.size) (fun h0=>⟨Q8 h0 (by simp) (by simp) ⟨FX.p,FX.p⟩,fun z hz=>Nat.lt_of_lt_of_le hz K.p.size⟩)))).mono ?_;rintro e1 w5 ⟨kU,kV,kW,kr,im,kX,gR,kz,rfl,lJ,hb⟩;have sR:=U lJ;have DU:=K;clear lJ;refine ⟨_,rfl,?_⟩;go_frame;replace CE:=U (CE.p.jj hb);replace FX:=U (FX.p.jj hb)
 replace A0:=U (A0.p.jj hb);replace A1:=U (A1.p.jj hb);replace A2:=U (A2.p.jj hb);replace C4:=U (C4.p.jj hb);replace CS:=U (CS.p.jj hb);replace RO:=U (RO.p.jj hb);replace K:=U (Rg.acc K.p hb);clear hb;refine d4 16 (i7 (.agg #[.int .i64 kU,.slice kV kW kr,.slice im kX gR])) ?_;go_frame;refine d4 17 (i7 (.int .i64 kz)) ?_;go_frame;refine Rg.aA none rfl rfl (Rg.ai _ _ _ rfl _ rfl _ rfl (aM _ _ _ _ _ _ _ C4.p)) ?_;go_frame;have y4:=C4.p.set (.int .i64 kU) (.slice kV kW kr) (.slice im kX gR);have hk:=eN w5 w1.heap.size (.int .i64 kU) (.slice kV kW kr) (.slice im kX gR);generalize ((w5.setCell ⟨w1.heap.size,0,none⟩ (.int .i64 kU)).setCell ⟨w1.heap.size,1,none⟩ (.slice kV kW kr)).setCell ⟨w1.heap.size,2,none⟩ (.slice im kX gR)=w6 at *;refine d6 5 (.int .i64 kz) ?_;go_frame
 go_wp2;exact bodyPost_ret (bA (p:=4) (u:=5) rfl _ rfl rfl y4) rfl (sR.p.kp DU.p hk mQ.p DT.p)
theorem DV {n:Int} {s:List Int} (h:aW w ov rv OO RR) (hn:n<=12) (hx:Rg.Ints w xv s) (lC:s.length<=100) :
  Calls Tryz.prog 14 #[.agg #[.int .i64 n,ov,rv],xv] w (iM (gL n [(n,OO,RR)] [] [s] [] (n,OO,RR)) (n,OO,RR) (qN s s) w):=by
 obtain ⟨oa,oc,rfl,-⟩:=h.1.shape;obtain ⟨ra,rc,rfl⟩:=h.2.shape;obtain ⟨on,iz⟩:∃ n,Hid (OO.length=n):=⟨_,U rfl⟩;obtain ⟨rn,iV⟩:∃ n,Hid (RR.length=n):=⟨_,U rfl⟩;rw [iz.p,iV.p] at h;rw [iz.p,iV.p];have CE:=U h;have K:=U (Below.refl w.heap.size w);obtain ⟨m1,xa,xc,lF,rfl,-⟩:=hx.len;have FX:=U (Rg.FI.nH hx);clear h hx
 go_enter Tryz.func14,Tryz.ntmps14
 go_upto_region 0 with (fail);refine c6 ?_;have aF:=eY w (.int .i64 n) (.slice oa on oc) (.slice ra rn rc);refine d4 2 (Rg.aY _ _ rfl rfl) ?_;go_frame;have hb:=(Below.refl w.heap.size w).alloc (Nat.le_refl _) (.cells #[.int .i64 n,.slice oa on oc,.slice ra rn rc] 25);generalize w.alloc (.cells #[.int .i64 n,.slice oa on oc,.slice ra rn rc] 25)=w1 at *;replace CE:=U (CE.p.jj hb);replace FX:=U (FX.p.jj hb);replace K:=U (Rg.acc K.p hb);clear hb;have A0:=U aF.1;have A1:=U aF.2.1;have A2:=U aF.2.2;clear aF;have mQ:=U K.p.size;have bX:=bM.new w1 (.int .i64 0) (.slice none 0 0) (.slice none 0 0);refine d4 4 (aU rfl) ?_;go_frame;have hb:=(Below.refl w1.heap.size w1).alloc (Nat.le_refl _) (.cells #[.int .i64 0,.slice none 0 0,.slice none 0 0] 25);generalize w1.alloc (.cells #[.int .i64 0,.slice none 0 0,.slice none 0 0] 25)=w2 at *
 replace CE:=U (CE.p.jj hb);replace FX:=U (FX.p.jj hb);replace A0:=U (A0.p.jj hb);replace A1:=U (A1.p.jj hb);replace A2:=U (A2.p.jj hb);replace K:=U (Rg.acc K.p hb);clear hb;have C4:=U bX;clear bX;refine d6 5 (.int .i64 ((0:Nat):Int)) ?_;go_frame;go_upto_region 1 with (fail);refine c6 ?_;refine d4 6 (g9 ((.agg #[.int .i64 n,.slice oa on oc,.slice ra rn rc])) ⟨w.heap.size,0,none⟩ (aq A0.p.cell A1.p.cell A2.p.cell)) ?_;go_frame;have jG:=n_.one (n:=n) CE.p;refine d4 7 (Rg.aN _ _ _ rfl (.agg #[.int .i64 n,.slice oa on oc,.slice ra rn rc]) rfl (qK w2 ..)) ?_;go_frame;have hb:=(Below.refl w2.heap.size w2).alloc (Nat.le_refl _) (.cells #[.int .i64 n,.slice oa on oc,.slice ra rn rc] 25);generalize w2.alloc (.cells #[.int .i64 n,.slice oa on oc,.slice ra rn rc] 25)=w3 at *;replace CE:=U (CE.p.jj hb)
 replace FX:=U (FX.p.jj hb);replace A0:=U (A0.p.jj hb);replace A1:=U (A1.p.jj hb);replace A2:=U (A2.p.jj hb);replace C4:=U (C4.p.jj hb);replace K:=U (Rg.acc K.p hb);clear hb;have CS:=U jG;clear jG;refine d5 8 (.slice xa m1 xc) ?_;go_frame;have hro:=iR.mk (o8 FX.p.ints 26);refine d4 9 (Rg.aN _ _ _ rfl (.slice xa m1 xc) rfl (Q6 w3 ..)) ?_;go_frame;have hb:=(Below.refl w3.heap.size w3).alloc (Nat.le_refl _) (.cells #[.slice xa m1 xc] 26);generalize w3.alloc (.cells #[.slice xa m1 xc] 26)=w4 at *;replace CE:=U (CE.p.jj hb);replace FX:=U (FX.p.jj hb);replace A0:=U (A0.p.jj hb);replace A1:=U (A1.p.jj hb);replace A2:=U (A2.p.jj hb);replace C4:=U (C4.p.jj hb);replace CS:=U (CS.p.jj hb);replace K:=U (Rg.acc K.p hb);clear hb;have RO:=U hro;clear hro;refine d4 10 (BZ _ _ rfl rfl rfl) ?_;go_frame
 refine d5 11 (.slice xa m1 xc) ?_;go_frame;refine d5 12 (.slice xa m1 xc) ?_;go_frame;refine d4 13 (ky _ _ rfl rfl rfl (uD _).2.1) ?_;go_frame;refine d4 14 (jz _ _ rfl rfl (Q0 _ _)) ?_;go_frame;have DT:=U C4.p.lt;refine f8 15 (aj 52 _ _ _ rfl rfl rfl (zK _ _)) ?_;refine ((iM.calls (kT (CS:=[(n,OO,RR)]) (cc:=1) CS.p (by simp) (by simp) (cz _) (by simp) RO.p.r (by simp) (by simp [lC]) (cz _) (by simp) (by simp) hn (Fk:=fun z=>z<w.heap.size) (fun h0=>⟨Q9 h0 (by simp) (by simp) lC ⟨FX.p,FX.p⟩,fun z hz=>Nat.lt_of_lt_of_le hz K.p.size⟩)))).mono ?_;rintro e1 w5 ⟨kU,kV,kW,kr,im,kX,gR,kz,rfl,lJ,hb⟩;have sR:=U lJ;have DU:=K;clear lJ;refine ⟨_,rfl,?_⟩;go_frame;replace CE:=U (CE.p.jj hb);replace FX:=U (FX.p.jj hb);replace A0:=U (A0.p.jj hb);replace A1:=U (A1.p.jj hb)
 replace A2:=U (A2.p.jj hb);replace C4:=U (C4.p.jj hb);replace CS:=U (CS.p.jj hb);replace RO:=U (RO.p.jj hb);replace K:=U (Rg.acc K.p hb);clear hb;refine d4 16 (i7 (.agg #[.int .i64 kU,.slice kV kW kr,.slice im kX gR])) ?_;go_frame;refine d4 17 (i7 (.int .i64 kz)) ?_;go_frame;refine Rg.aA none rfl rfl (Rg.ai _ _ _ rfl _ rfl _ rfl (aM _ _ _ _ _ _ _ C4.p)) ?_;go_frame;have y4:=C4.p.set (.int .i64 kU) (.slice kV kW kr) (.slice im kX gR);have hk:=eN w5 w1.heap.size (.int .i64 kU) (.slice kV kW kr) (.slice im kX gR);generalize ((w5.setCell ⟨w1.heap.size,0,none⟩ (.int .i64 kU)).setCell ⟨w1.heap.size,1,none⟩ (.slice kV kW kr)).setCell ⟨w1.heap.size,2,none⟩ (.slice im kX gR)=w6 at *;refine d6 5 (.int .i64 kz) ?_;go_frame;go_wp2;exact bodyPost_ret (bA (p:=4) (u:=5) rfl _ rfl rfl y4) rfl (sR.p.kp DU.p hk mQ.p DT.p)
end
section
open Go.RowKit
open Go.Sort
attribute [local irreducible] Go.Calls
def El (F:Nat->Prop) (w:World):={ p:Value × List Int // Rg.FI F w p.1 p.2 }
theorem TZ (F:Nat->Prop) (w:World):Rg.FI F w (.slice none 0 0) []:=⟨none,0,rfl,Nat.le_refl _,Nat.zero_le _,Nat.zero_le _,fun h=>absurd h (Nat.lt_irrefl 0)⟩
instance (F:Nat->Prop) (w:World):Inhabited (El F w):=⟨⟨(.slice none 0 0,[]),TZ F w⟩⟩
end
section
open Go.RowKit
open Go.Proofs.Ob
open Go.Proofs.Cm (Gd Gr ak)
attribute [local irreducible] Go.Calls Go.wpList
structure C4 (W:World) (b1 o1 b2 o2 b3 o3 b4 o4:Nat) (v1 v2 v3 v4:Value):Prop where
 c1:W.cell? ⟨b1,o1,none⟩=some v1
 c2:W.cell? ⟨b2,o2,none⟩=some v2
 c3:W.cell? ⟨b3,o3,none⟩=some v3
 c4:W.cell? ⟨b4,o4,none⟩=some v4
theorem mR {b o:Nat} (h:W.cell? ⟨b,o,none⟩=some u) (hb:Below W.heap.size W X):X.cell? ⟨b,o,none⟩=some u:=(Below.cell (p:=⟨b,o,none⟩) hb (fN h)).trans h
theorem C4.jj {b1 o1 b2 o2 b3 o3 b4 o4:Nat} {v3 v4:Value} (h:C4 W b1 o1 b2 o2 b3 o3 b4 o4 v1 v2 v3 v4) (hb:Below W.heap.size W X):C4 X b1 o1 b2 o2 b3 o3 b4 o4 v1 v2 v3 v4 :=
 ⟨mR h.c1 hb,mR h.c2 hb,mR h.c3 hb,mR h.c4 hb⟩
theorem C4.kp {b1 o1 b2 o2 b3 o3 b4 o4:Nat} {v3 v4:Value} (h:C4 W b1 o1 b2 o2 b3 o3 b4 o4 v1 v2 v3 v4) (hk:Rg.Kp M W X) (n1:¬ M b1) (n2:¬ M b2) (n3:¬ M b3) (n4:¬ M b4):C4 X b1 o1 b2 o2 b3 o3 b4 o4 v1 v2 v3 v4 :=
 ⟨uh h.c1 hk n1,uh h.c2 hk n2,uh h.c3 hk n3,uh h.c4 hk n4⟩
structure Ra (w:World) (v:Value) (x:List Nat):Prop where
 np:Rg.NP w v x
theorem Ra.jj {w w':World} {v:Value} {x:List Nat} (h:Ra w v x) (hb:Below w.heap.size w w'):Ra w' v x:=⟨Rg.NP.jj h.np hb⟩
end
section
open Go.Proofs.Ob
theorem Rb (l:List Int):(jk l).Pairwise (·<=·):=(qV l [] .nil).2
theorem B7 (l:List Int):(jk l).Perm l:=by
 have h:=(qV l [] .nil).1;rw [List.append_nil] at h;exact h
theorem T5 {l:List Nat} (h:l.Nodup):(jk (Ma.af l)).Pairwise (· < ·):=by
 have hn:(jk (Ma.af l)).Nodup:=by
  rw [(B7 _).nodup_iff];unfold Ma.af;rw [List.Nodup,List.pairwise_map];exact h.imp fun gi e=>gi (by omega)
 exact ((Rb _).and hn).imp fun {a b} h=>by have h1:=h.1; have h2:a≠b:=h.2; omega
end
section
open Go.RowKit
open Go.Proofs.Ob
open Go.Proofs.Cm (Gd Gr ak ap lexLt cj St)
attribute [local irreducible] Go.Calls Go.wpList
theorem kA {x g:List Nat} (gx:Gd N x) (gg:Gd N g) {i:Nat} (hi:i<N):ap (dz x g) (ap g i)=ap g (ap x i):=by
 have h1:=Cm.bI gg hi;unfold dz;rw [Cm.bs (Cm.aT (Cm.aH gg) gx) h1,Cm.bs (Cm.aH gg) h1,Cm.eW gg hi]
theorem XJ {x y g:List Nat} (gx:Gd N x) (gy:Gd N y) (gg:Gd N g):decide (dz x g=y)=XI N g x y:=by
 unfold XI;refine decide_eq_decide.2 ⟨fun h i hi=>?_,fun h=>?_⟩
 ·subst h
  exact kA gx gg hi
 ·refine Cm.iw (Cm.aT (Cm.aT (Cm.aH gg) gx) gg).2 gy.2 fun j hj=>?_
  have hi:=Cm.bI (Cm.aH gg) hj;have e:=kA gx gg hi;rw [Cm.gA gg hj] at e;have h2:=h _ hi;rw [Cm.gA gg hj] at h2;exact e.trans h2.symm
theorem zL:∀ {l l':List Int},l.Pairwise (· < ·)->l'.Pairwise (· < ·)->(∀ x,x∈l↔x∈l')->l=l'
 | [],[],_,_,_=>rfl
 | [],y :: l',_,_,h=>by have:=(h y).2 (List.mem_cons_self ..); simp at this
 | x :: l,[],_,_,h=>by have:=(h x).1 (List.mem_cons_self ..); simp at this
 | x :: l,y :: l',h1,h2,h=>by
  rw [List.pairwise_cons] at h1 h2;have hx:=(h x).1 (List.mem_cons_self ..);have hy:=(h y).2 (List.mem_cons_self ..)
  have e:x=y:=by
   rcases List.mem_cons.1 hx with e | e
   ·exact e
   ·rcases List.mem_cons.1 hy with e' | e'
    ·exact e'.symm
    ·have:=h1.1 y e'; have:=h2.1 x e; omega
  subst e
  rw [zL h1.2 h2.2 fun z=>⟨fun hz=>by
   rcases List.mem_cons.1 ((h z).1 (List.mem_cons_of_mem _ hz)) with e | e
   ·subst e; have:=h1.1 z hz; omega
   ·exact e,fun hz=>by
   rcases List.mem_cons.1 ((h z).2 (List.mem_cons_of_mem _ hz)) with e | e
   ·subst e; have:=h2.1 z hz; omega
   ·exact e⟩]
theorem uE {l:List Int} (h:pz l):l.Pairwise (· < ·):=by
 rw [List.pairwise_iff_getElem]
 have key:∀ d i (h2:i+d+1<l.length),l[i]'(by omega)<l[i+d+1]:=by
  intro d
  induction d with
  | zero=>intro i h2; exact h (i+1) h2 (by omega)
  | succ d ih =>
   intro i h2;have h3:=ih i (by omega);have h4:=h (i+(d+1)+1) h2 (by omega)
   have e:l[i+(d+1)+1 - 1]'(by omega)=l[i+d+1]'(by omega):=by congr 1
   rw [e] at h4;omega
 intro i j hi hj vd;have:=key (j - i - 1) i (by omega)
 have e:l[i+(j - i - 1)+1]'(by omega)=l[j]:=by congr 1; omega
 rw [e] at this;exact this
theorem DW {s:List Nat} (h:(Ma.af s).Pairwise (· < ·)):s.Pairwise (· < ·):=by
 unfold Ma.af at h;rw [List.pairwise_map] at h
 exact h.imp fun h=>by omega
theorem JU {s t g:List Nat} (hs:pz (Ma.af s)) (ht:pz (Ma.af t)) (iF:∀ y∈s,y<N) (gg:Gd N g):decide (Ob.jk (Ma.af (s.map (ap g)))=Ma.af t)=TY g s t:=by
 have hnd:(s.map (ap g)).Nodup:=by
  rw [List.nodup_iff_pairwise_ne,List.pairwise_map];refine List.Pairwise.imp_of_mem ?_ (DW (uE hs));intro x y hx hy Jy e;have:=Cm.iu gg (iF x hx) (iF y hy) e;omega
 have eA:t.Nodup:=by
  rw [List.nodup_iff_pairwise_ne]
  exact (DW (uE ht)).imp fun h=>by omega
 have hp:=B7 (Ma.af (s.map (ap g)));unfold TY;refine decide_eq_decide.2 ⟨fun h=>⟨?_,fun y hy=>?_⟩,fun ⟨hl,hm⟩=>?_⟩
 ·have:=hp.length_eq
  rw [h,Ma.az,Ma.az,List.length_map] at this;exact this.symm
 ·rw [<- Vl,<- h,hp.mem_iff,Vl]
  exact List.mem_map_of_mem hy
 ·refine zL (T5 hnd) (uE ht) fun x=>?_
  rw [hp.mem_iff]
  have Vm:∀ z,z∈s.map (ap g)->z∈t:=fun z hz=>by
   obtain ⟨y,hy,rfl⟩:=List.mem_map.1 hz;exact hm y hy
  unfold Ma.af;rw [List.mem_map,List.mem_map];refine ⟨fun ⟨z,hz,e⟩=>⟨z,Vm z hz,e⟩,fun ⟨z,hz,e⟩=>⟨z,?_,e⟩⟩;refine Classical.byContradiction fun hc=>?_
  have:=fG (l:=z :: s.map (ap g)) (m:=t) (List.nodup_cons.2 ⟨hc,hnd⟩) fun a ha=>by
   rcases List.mem_cons.1 ha with rfl | ha
   ·exact hz
   ·exact Vm a ha
  rw [List.length_cons,List.length_map] at this;omega
theorem iL.same {c0:gS} {Pb JS:List Nat->Bool} {e e':Ending} {w1 w2:World} (h:iL ck c0 Pb w e w1) (h':iL ck c0 JS W e' w2) (hp:ck=0->∀ N O R,AY c0 N O R->∀ g,Gd N g->Pb g=JS g) :
  ∃ x y k l,e=.returned (.tuple #[x,.int .i64 k])/\e'=.returned (.tuple #[y,.int .i64 k])/\((x=.slice none 0 0/\y=.slice none 0 0/\l=[])∨(Rg.Ints w1 x l/\Rg.Ints w2 y l)):=by
 obtain ⟨_,(⟨h1,h2⟩ | ⟨h1,N,O,R,hc,hf⟩)⟩:=h
 ·obtain ⟨_,(⟨h3,h4⟩ | ⟨h3,_⟩)⟩:=h'
  ·exact ⟨_,_,_,[],h2,h4,.inl ⟨rfl,rfl,rfl⟩⟩
  ·exact absurd h3 h1
 ·obtain ⟨_,(⟨h3,h4⟩ | ⟨h3,N',O',R',sw,Xb⟩)⟩:=h'
  ·exact absurd h1 h3
  ·have en:N=N':=by have h5:=hc.1; have h6:=sw.1; omega
   subst en;have eo:O=O':=dh (hc.2.2.2.1.symm.trans sw.2.2.2.1);subst eo
   have er:R=R':=by
    have:=congrArg (List.map (List.map nW)) (hc.2.2.2.2.1.symm.trans sw.2.2.2.2.1)
    rwa [iD,iD] at this
   subst er;have ft:∀ g∈gQ N O R,Pb g=JS g:=fun g hg=>hp h1 N O R hc g ((Gr.bV hc.2.2.2.2.2.2).gd _ (((fI hc.2.2.2.2.2.2 hc.2.2.2.2.2.1).2 _).1 hg))
   rcases hf.congr ft with ⟨g1,g2⟩ | ⟨k,x,g1,g2,g3,g4,g5⟩
   ·rcases Xb with ⟨q1,q2⟩ | ⟨k',x',q1,q2,q3,q4,q5⟩
    ·exact ⟨_,_,_,[],g2,q2,.inl ⟨rfl,rfl,rfl⟩⟩
    ·rw [g1 k' q1] at q2; cases q2
   ·rcases Xb with ⟨q1,q2⟩ | ⟨k',x',q1,q2,q3,q4,q5⟩
    ·rw [q1 k g1] at g2; cases g2
    ·have ek:k=k':=by
      rcases Nat.lt_trichotomy k k' with h | h | h
      ·rw [q3 k h] at g2; cases g2
      ·exact h
      ·rw [g3 k' h] at q2; cases q2
     subst ek;exact ⟨_,_,_,_,g4,q4,.inr ⟨g5,q5⟩⟩
end
section
open Go.Proofs.Ob
open Go.Proofs.Cm (Gr ak cj St Fx ap my wJ)
def uq (gs:List (List Nat)) (D p q:Nat):List Nat:=VA gs D (wd (tree gs D p) q)
end
section
open Go.RowKit
open Go.Proofs.Ob
open Go.Shelf
open Go.Proofs.Cm (Gd)
attribute [local go_sem] Oper.semAt_some
attribute [local irreducible] Go.Calls Go.wpList Go.wpListIn
structure xF (w:World) (tb:Nat) (n:Int) (ov rv:Value) (W:World) (F:Nat->Prop) (v:Value) (T:List (List Nat)):Prop where
 cG:Below w.heap.size w W
 low:w.heap.size+1<=tb
 a0:CL W w.heap.size 0 (.int .i64 n)
 a1:CL W w.heap.size 1 ov
 a2:CL W w.heap.size 2 rv
 c5:CW W tb v
 row:cO (tb+1) F (fun _=>False) W v T
 Fr:∀ z,F z->tb+1<=z/\z<W.heap.size
theorem xF.up {w:World} {tb:Nat} {n:Int} {ov rv:Value} {W W':World} {F:Nat->Prop} {v:Value} {T:List (List Nat)} (h:xF w tb n ov rv W F v T) (hb:Below W.heap.size W W'):xF w tb n ov rv W' (dS F W W') v T :=
 ⟨h.cG.trans (hb.mono h.cG.size),h.low,h.a0.up hb,h.a1.up hb,h.a2.up hb,h.c5.jj hb,h.row.up0 hb,fun z hz=>by
  rcases hz with hz | hz
  ·exact ⟨(h.Fr z hz).1,Nat.lt_of_lt_of_le (h.Fr z hz).2 hb.size⟩
  ·exact ⟨by have:=h.c5.lt; omega,hz.2⟩⟩
theorem cO.nc {l:List (List Nat)} (h:cO B F (fun _=>False) W v l) {row:Option Nat} (hg:W.grownBy W' row) (hr:∀ r,row=some r->∃ o:Obj,W.heap[r]?=some o/\o.isCells=false):cO B F (fun _=>False) W' v l:=by
 obtain ⟨us,h1,h2⟩:=h.own;exact ⟨Nat.le_trans h.size hg.size,⟨us,Dr hg hr h1,vR hg hr h2⟩,h.off⟩
theorem xF.keep {tb:Nat} {n:Int} {T:List (List Nat)} {row:Option Nat} (h:xF w tb n ov rv W F v T) (hB:tb+1<=B) (hg:W.grownBy W' row) (hr:∀ r,row=some r->B<=r/\∃ o:Obj,W.heap[r]?=some o/\o.isCells=false):xF w tb n ov rv W' F v T:=by
 have hk:Rg.Kp (fun k=>row=some k) W W':=Rg.Kp.dc hg fun _ e=>e
 have hM:∀ b,b<B->¬ row=some b:=fun b hb e=>by have:=(hr b e).1; omega
 have lo:=h.low;exact ⟨h.cG.grown hg h.cG.size (fun k e=>by have:=(hr k e).1; omega),h.low,h.a0.kp hk (hM _ (by omega)),h.a1.kp hk (hM _ (by omega)),h.a2.kp hk (hM _ (by omega)),h.c5.kp hk (hM _ (by omega)),h.row.nc hg (fun r e=>(hr r e).2),fun z hz=>⟨(h.Fr z hz).1,Nat.lt_of_lt_of_le (h.Fr z hz).2 hg.size⟩⟩
theorem xF.store {tb:Nat} {n:Int} {v':Value} {T T':List (List Nat)} (h:xF w tb n ov rv W F v T) (hk:Rg.Kp (fun k=>v.ownBlock=some k) W X) (hr:cO (tb+1) F (fun _=>False) X v' T'):xF w tb n ov rv (X.setCell ⟨tb,0,none⟩ v') F v' T':=by
 have cU:Rg.Kp (fun z=>z=tb) X (X.setCell ⟨tb,0,none⟩ v'):=Rg.Kp.aO rfl;have lo:∀ k,v.ownBlock=some k->tb+1<=k:=fun k e=>(h.row.lt k e).1;have low:=h.low
 exact ⟨(Rg.Kp.jj h.cG hk (fun k e=>by have:=lo k e; omega)).setCell (p:=⟨tb,0,none⟩) (by show w.heap.size<=tb; omega) _,h.low,
  (h.a0.kp hk (fun e=>by have:=lo _ e; omega)).kp cU (by omega),(h.a1.kp hk (fun e=>by have:=lo _ e; omega)).kp cU (by omega),(h.a2.kp hk (fun e=>by have:=lo _ e; omega)).kp cU (by omega),
  (h.c5.kp hk (fun e=>by have:=lo _ e; omega)).set _,hr.kp cU (fun z hz e=>by have:=(h.Fr z hz).1; omega) (fun z hz e=>by have:=(hr.lt z hz).1; omega),
  fun z hz=>⟨(h.Fr z hz).1,by have:=(h.Fr z hz).2; have:=hk.size; have:=cU.size; omega⟩⟩
theorem KK.aay {W1:World} {B2:Nat} (h:KK B n₀ W W1) (hk:Rg.Kp (fun k=>v.ownBlock=some k) W1 X) (hr:cO B2 F M W1 v gs) (hn:n₀<=B2):KK B n₀ W X:=by
 obtain ⟨us,q1,q2⟩:=hr.own;exact h.row (F:=F) (B2:=B2) (gs:=gs) hk ⟨hr.size,us,q1,q2⟩ hn
theorem JV {fn:Func} {t u:Go.Tmp} (h:fn.results=#[.tmp t,.tmp u]) (tmps:Array Value) {x y:Value} (hx:tmps.getD t undef=x) (hy:tmps.getD u undef=y):(results fn tmps).run Tryz.prog w=.ok (.tuple #[x,y]) w:=by
 rw [results_tmp2 h,hx,hy]
def Lk (n:Int) (OO:List (List Int)) (RR:List (List (List Int))) (w:World) (e:Ending) (w':World):Prop:=∃ v,e=.returned (.tuple #[v,.int .i64 (bn n OO RR)])/\Rg.Rows w' v (nY n OO RR)/\Below w.heap.size w w'
theorem B8 {n:Int} {tmps:Array Value} {c:Int} {ds:List Nat} (hb:Below w.heap.size w W) (hv:Rg.Rows W v (nY n OO RR)) (hc:bn n OO RR=c) (p2:tmps.getD 2 undef=v) (p3:tmps.getD 3 undef=.int .i64 c) (hnd:ds.Nodup) (hD:∀ D,D∈ds->RF.eP D W/\w.heap.size<=D) :
  LeavesInM Fence.wide 0 Tryz.prog Tryz.f45 tmps (Lk n OO RR w) (ds.map RF.mark) .returning W :=
 RF.leaves w.heap.size ds W hnd hD fun W' l1 l2 _=>⟨_,JV rfl _ p2 p3,_,by rw [hc],FV l2 l1.size hv,hb.trans l1⟩
theorem DY (w:World) (b o m c:Nat) (h:m<=c):∃ ca:Addr,(Instr.sliceAt 41 (.slice (some ⟨b,o,none⟩) (m+1) (c+1)) (some (.int .i64 1)) none none).run Tryz.prog w=.ok (.slice (some ca) m c) w/\(0<m->ca=⟨b,o+1,none⟩):=by
 by_cases e:c=0
 ·refine ⟨⟨b,o,none⟩,?_,fun h=>by omega⟩
  obtain rfl:m=0:=by omega
  subst e;simp [Instr.sliceAt,Instr.slice,run_underlying Tryz.underlying41,Instr.sliceBounds,Instr.sliceBound,asIntOf,Addr.add]
 ·refine ⟨⟨b,o+1,none⟩,?_,fun _=>rfl⟩
  simp [Instr.sliceAt,Instr.slice,run_underlying Tryz.underlying41,Instr.sliceBounds,Instr.sliceBound,asIntOf,Addr.add,e];intro hh;omega
theorem A4 {o:Oper} {a:Act} {r:Value} (x:Operand) (ho:o.op=.slice 41 x (some (.const (.int .i64 1))) none none) (hx:a.eval x=v) (hr:(Instr.sliceAt 41 v (some (.int .i64 1)) none none).run Tryz.prog w=.ok r w) :
  (execOp a.eval o).run Tryz.prog w=.ok (.value r) w:=by
 unfold execOp;simp only [ho,hx,Sem.run_bind,Sem.run_pure,Option.map]
 first | (rw [hr]; rfl) | (erw [hr]; rfl) | simp [hr]
def qO (RR:List (List (List Int))) (z:Nat):List (List Int):=(RR.getD z []).drop 1
theorem Nw:(dX RR.length RR.length).flatMap (fun z=>qO RR z.1)=RR.flatMap (List.drop 1):=by
 have h:(dX RR.length RR.length).flatMap (fun z=>qO RR z.1)=((dX RR.length RR.length).map (fun z=>RR.getD z.1 [])).flatMap (List.drop 1):=by rw [List.flatMap_map]; rfl
 rw [h,PN (fun x=>RR.getD x [])]
 congr 1
 refine List.ext_getElem (by simp) fun i h1 h2=>?_;rw [List.getElem_map,List.getElem_range,BA h2]
theorem rP {n:Int} (h:aW w ov rv OO RR) :
  Calls Tryz.prog 45 #[.agg #[.int .i64 n,ov,rv]] w (Lk n OO RR w):=by
 obtain ⟨oa,oc,rfl,-⟩:=h.1.shape;obtain ⟨ra,rc,rfl⟩:=h.2.shape;have HC:=U h;have HR:=U h.2;have K:=U (Below.refl w.heap.size w);clear h;refine RF.fV Tryz.func45 rfl ?_;simp only [Tryz.ntmps45,List.size_toArray,List.length_cons,List.length_nil,Nat.reduceAdd,Nat.reduceSub,Array.replicate_succ,Array.replicate_zero,List.push_toArray,List.append_toArray,List.nil_append,List.cons_append];have yu:w.heap.size=w.heap.size+0:=rfl;go_upto_region 0 with (fail);refine c6 ?_;have aF:=eY w (.int .i64 n) (.slice oa OO.length oc) (.slice ra RR.length rc)
 have hs:(w.alloc (.cells #[.int .i64 n,.slice oa OO.length oc,.slice ra RR.length rc] 25)).heap.size=w.heap.size+1:=by simp
 refine d4 1 (Rg.aY _ _ rfl rfl) ?_;go_frame;have hb:=(Below.refl w.heap.size w).alloc (Nat.le_refl _) (.cells #[.int .i64 n,.slice oa OO.length oc,.slice ra RR.length rc] 25);generalize w.alloc (.cells #[.int .i64 n,.slice oa OO.length oc,.slice ra RR.length rc] 25)=w1 at *;replace HC:=U (HC.p.jj hb);replace K:=U (Rg.acc K.p hb);clear hb;have A0:=U aF.1;have A1:=U aF.2.1;have A2:=U aF.2.2
 have lD:w1.heap.size=w.heap.size+1:=by omega
 clear hs;clear aF;refine d6 2 (.slice none 0 0) ?_;go_frame;refine d6 3 (.int .i64 ((0:Nat):Int)) ?_;go_frame;obtain ⟨ck,dY⟩:∃ c,Hid (bn n OO RR=c):=⟨_,U rfl⟩;clear yu;go_upto_region 1 with (fail);refine c6 ?_;refine d4 10 (g9 ((.agg #[.int .i64 n,.slice oa OO.length oc,.slice ra RR.length rc])) ⟨w.heap.size,0,none⟩ (aq A0.p.cell A1.p.cell A2.p.cell)) ?_;go_frame;refine f8 11 (aE 73 _ _ rfl rfl (vO _ _)) ?_;refine (km HC.p).mono ?_;rintro e1 w2 ⟨rfl,hb⟩;rw [dY.p];refine ⟨_,rfl,?_⟩;go_frame;replace HC:=U (HC.p.jj hb);replace A0:=U (A0.p.jj hb);replace A1:=U (A1.p.jj hb);replace A2:=U (A2.p.jj hb);replace K:=U (Rg.acc K.p hb);clear hb;refine d6 4 (.int .i64 ck) ?_;go_frame
 by_cases h0:ck=0
 case neg =>
  skip
  go_upto_region 2 with (fail);refine c6 ?_;refine d5 12 (.int .i64 ck) ?_;go_frame;refine d4 13 (i3 (.bool true) .neq (h:=aQ _ (decide_eq_true h0))) ?_;go_frame;go_upto_region 3 with (fail);refine c6 ?_;refine d5 14 (.int .i64 ck) ?_;go_frame;refine d6 2 (.slice none 0 0) ?_;go_frame;refine d6 3 (.int .i64 ck) ?_;go_frame;have HV:=U (show nY n OO RR=[] from if_neg (by rw [dY.p]; exact h0));have HX:=U (show Rg.Rows w2 (.slice none 0 0) (nY n OO RR) by rw [HV.p]; exact cz _);go_wp2;exact B8 (ds:=[]) K.p HX.p dY.p rfl rfl (by simp) (fun D hD=>by simp at hD)
 case pos =>
  have HZ:=U (dY.p.trans h0);go_upto_region 2 with (fail);refine c6 ?_;refine d5 12 (.int .i64 ck) ?_;go_frame;refine d4 13 (i3 (.bool false) .neq (h:=aQ _ (decide_eq_false (fun e=>e h0)))) ?_;go_frame;clear h0;obtain ⟨N,O,R,rfl,fL,Ax,Ag,vN,cQ,iP⟩:=fa HZ.p;have Wv:=U (fa HZ.p);have qp:=U (show RR.length=N by rw [vN,List.length_map,cQ.iK]);have K4:=U (show R.length=RR.length by rw [vN,List.length_map]);have Jh:=U vN;have dE:=U cQ;have rm:=U iP;clear Ag vN cQ iP;obtain ⟨tb,XK⟩:∃ tb,Hid (w2.heap.size=tb):=⟨_,U rfl⟩;have bX:=CW.new w2 (.slice none 0 0) 41;rw [XK.p] at bX;have WN:=U (show w.heap.size+1<=tb by have:=A0.p.lt; rw [XK.p] at this; exact this);go_upto_region 4 with (fail);refine c6 ?_;refine d4 5 (nk rfl) ?_;go_frame;have hb:=(Below.refl w2.heap.size w2).alloc (Nat.le_refl _) (.cells #[.slice none 0 0] 41)
  generalize w2.alloc (.cells #[.slice none 0 0] 41)=w3 at *;replace HC:=U (HC.p.jj hb);replace A0:=U (A0.p.jj hb);replace A1:=U (A1.p.jj hb);replace A2:=U (A2.p.jj hb);replace K:=U (Rg.acc K.p hb);clear hb;rw [XK.p] at *;have C5:=U bX;clear bX;have SG:=U (show xF w tb ((N:Nat):Int) (.slice oa OO.length oc) (.slice ra RR.length rc) w3 (fun _=>False) (.slice none 0 0) [] from ⟨K.p,WN.p,A0.p,A1.p,A2.p,C5.p,cO.nil _ _ _ _ C5.p.lt,fun z hz=>hz.elim⟩);clear A0 A1 A2 C5;go_upto_region 5 with (fail);refine c6 ?_;refine d4 15 (g9 ((.agg #[.int .i64 ((N:Nat):Int),.slice oa OO.length oc,.slice ra RR.length rc])) ⟨w.heap.size,0,none⟩ (aq SG.p.a0.cell SG.p.a1.cell SG.p.a2.cell)) ?_;go_frame;refine f8 16 (aE 74 _ _ rfl rfl (Dg _ _)) ?_;refine (qX _ _ _ w3).mono ?_;rintro e1 w4 ⟨fb,rfl,lI,hb⟩
  have eS:=hb.size;have sO:=SG.p.up hb;refine ⟨_,rfl,?_⟩;go_frame;replace HC:=U (HC.p.jj hb);replace K:=U (Rg.acc K.p hb);clear hb;have FB:=U lI;clear SG;have SG:=U sO;generalize dS (fun _=>False) w3 w4=FA at *;clear lI sO;have kM:=U (show tb+1<=w4.heap.size from SG.p.c5.lt);clear eS;obtain ⟨us,rW,tR,yT⟩:=HR.p;have Jb:=U yT
  have yU:Aw w.heap.size w4 ra RR.length (fun k=>us[k]?.getD undef):=by
   obtain ⟨a',c',e,q1,q2,q3,q4⟩:=rW
   injection e with e1 e2 e3
   refine ⟨by have:=qp.p; omega,fun h0=>?_,fun b off e5 j hj=>?_,K.p.size⟩
   ·obtain ⟨b,o,e4,e5,_⟩:=q4 (by omega)
    exact ⟨b,o,e1.trans e4,e5⟩
   ·obtain ⟨b',o',e4,e6,e7⟩:=q4 (by omega)
    rw [e1,e4] at e5;simp only [Option.some.injEq,Addr.mk.injEq,and_true] at e5;obtain ⟨rfl,rfl⟩:=e5;rw [(K.p.cell (p:=⟨b',o'+j,none⟩) e6)];show _=some (us[j]?.getD undef);rw [List.getElem?_eq_getElem (by omega)];exact e7 j (by omega)
  have sD:=U yU;have sF:=U tR;clear rW yU tR yT;go_wp2
  refine wR rfl FB.p sD.p rfl (fun pre W=>∃ F v T,xF w tb ((N:Nat):Int) (.slice oa OO.length oc) (.slice ra RR.length rc) W F v T/\T.map Ma.af=pre.flatMap (fun z=>qO RR z.1)/\T.length<=64*pre.length)
   (fun c pre W=>False) ?hI ?hIx ⟨_,_,[],SG.p,rfl,Nat.zero_le _⟩ ?a1 ?assign ?body ?done ?stop
  case assign =>
   intro l x W K hK
   gi_wp2
   exact hK
  case hI =>
   rintro pre W W' row ⟨F,v,T,h1,h2⟩ hg hr;exact ⟨F,v,T,h1.keep (by have:=kM.p; omega) hg hr,h2⟩
  case hIx =>
   intro c pre W W' row h hg hr;exact h
  case stop =>
   intro D c pre W hD h hd;exact h.elim
  case body =>
   rintro l pre ⟨X,hX⟩ W ⟨F,v,T,sO,xw,v8⟩ Wo;obtain ⟨B,hB⟩:∃ B,w4.heap.size=B:=⟨_,rfl⟩;rw [hB] at kM ⊢;clear FB sD SG K hB HC
   have nV:X<N:=by have:=qp.p; omega
   have SG:=U sO;have KQ:=U (KK.refl (B:=B) (n₀:=w.heap.size) (W:=W) sO.cG.size);have Pm:=U xw
   have xB:=U (show T.length<=64*64 by
    have:pre.length<64:=by have:=qp.p; omega
    omega)
   have aaz:=U v8;have qq:=U hX;have AD:=U nV;clear sO xw v8;have hu:=Jb.p X (by rw [sF.p]; exact hX) hX
   have e1:us[X]?.getD undef=us[X]'(by rw [sF.p]; exact hX):=by rw [List.getElem?_eq_getElem (by rw [sF.p]; exact hX)]; rfl
   rw [<- e1] at hu
   dsimp only
   generalize us[X]?.getD undef=u at *;clear e1;obtain ⟨rl,oP⟩:∃ rl:List (List Nat),Hid (R.getD X []=rl):=⟨_,U rfl⟩
   have tX:X<R.length:=by have:=K4.p; omega
   have y6:RR[X]'hX=rl.map Ma.af:=by
    rw [<- oP.p]
    have:RR[X]'hX=(R.map (List.map Ma.af))[X]'(by rw [List.length_map]; exact tX):=by first | (congr 1; done) | (congr 1; exact Jh.p)
    rw [this,List.getElem_map,df tX]
   have Vn:=U (show qO RR X=(rl.drop 1).map Ma.af by
    unfold qO
    rw [BA hX,y6,List.map_drop])
   rw [y6] at hu;have PL:=U (show ∀ x∈rl,Gd N x from fun x hx=>rm.p x (List.mem_flatten.2 ⟨_,List.getElem_mem tX,by rw [<- df tX,oP.p]; exact hx⟩))
   have Jk:rl.length<=N - X:=by
    have h1:=dE.p.len X nV;have h2:=hU (Cm.Gr.bV (n:=N) (gs:=(·∈R.flatten)) rm.p) dE.p nV;rw [oP.p] at h1;omega
   have XL:1<=rl.length:=by
    have h1:=dE.p.len X nV;rw [oP.p] at h1;have hm:X∈O.getD X []:=(dE.p.orb X X nV).2 ⟨Ma.bh N,⟨.one,Cm.Fx.one (by omega)⟩,Cm.cD nV⟩;have:=List.length_pos_of_mem hm;omega
   obtain ⟨ua,uc,rfl,Br,-,-,yX⟩:=hu.shape;obtain ⟨ub,uo,rfl,sH,yY⟩:=yX (by rw [List.length_map]; omega);rw [List.length_map] at Br;obtain ⟨m,hm⟩:∃ m,rl.length=m+1:=⟨rl.length - 1,by omega⟩;obtain ⟨cm,rfl⟩:∃ cm,uc=cm+1:=⟨uc - 1,by omega⟩;rw [List.length_map,hm];have HM:=U hm
   have aaU:m<64:=by omega
   have HUC:=U yY;have HUB:=U sH;obtain ⟨ca,hsr,hca⟩:=DY W ub uo m cm (by omega);have HCA:=U hca;clear yY yX hu y6 Jk XL sH hm hca Br
   gi_upto_region 7 with (fail)
   refine wpIn_region_list ?_;refine Rg.ax (some 19) rfl rfl (fun _ hh=>by cases hh) (a7 (.slice (some ⟨ub,uo,none⟩) (m+1) (cm+1)) _ rfl rfl) ?_;go_frame;refine Rg.ax (some 20) rfl rfl (fun _ hh=>by cases hh) (A4 _ rfl rfl hsr) ?_;go_frame;refine Rg.ax (some 21) rfl rfl (fun _ hh=>by cases hh) (i4 Tryz.underlying41) ?_;go_frame;refine Rg.ax (some 22) rfl rfl (fun _ hh=>by cases hh) (a7 (.int .i64 ((0:Nat):Int)) _ rfl rfl) ?_;go_frame;clear hsr;have sr:=U (show T.map Ma.af=T.map Ma.af++(qO RR X).take 0 by simp);have yp:=U (show T.length<=T.length+0 from Nat.le_refl _)
   gi_wp2
   gi_loopw [22] (fun jv wr=>∃ (j:Nat) (F:Nat->Prop) (v:Value) (T':List (List Nat)),jv=.int .i64 j/\j<=m/\Hid (xF w tb ((N:Nat):Int) (.slice oa OO.length oc) (.slice ra RR.length rc) wr F v T')/\Hid (KK B w.heap.size W wr)/\Hid (T'.map Ma.af=T.map Ma.af++(qO RR X).take j)/\Hid (T'.length<=T.length+j)) (fun jv _=>m - (intOf jv).toNat)
   case atStart=>exact ⟨0,_,_,_,rfl,Nat.zero_le _,SG,KQ,sr,yp⟩
   case round =>
    clear SG KQ sr yp;obtain ⟨j,F,v,T',rfl,hj,SG,KQ,sr,yp⟩:=hrel;obtain ⟨va,vc,nR⟩:=SG.p.row.shape;subst nR
    by_cases rz:j<m
    case neg =>
     obtain rfl:j=m:=by omega
     have Cz:¬ (j:Int)<(j:Int):=by omega
     gi_upto_region 8 with (fail)
     refine wpIn_region_list ?_;refine Rg.ax (some 23) rfl rfl (fun _ hh=>by cases hh) (i3 (.bool false) .lss (h:=bj _ (decide_eq_false Cz))) ?_;go_frame
     have HT9:=U (show T'.map Ma.af=(pre++[(⟨X,qq.p⟩:Fin RR.length)]).flatMap (fun z=>qO RR z.1) by
      rw [List.flatMap_append,List.flatMap_singleton,sr.p,Pm.p,List.take_of_length_le]
      rw [Vn.p,List.length_map,List.length_drop,HM.p]; omega)
     have HN9:=U (show T'.length<=64*(pre++[(⟨X,qq.p⟩:Fin RR.length)]).length by
      rw [List.length_append,List.length_singleton]
      have:=yp.p; have:=aaz.p; omega)
     gi_wp2
     exact ⟨KQ.p.keeps,KQ.p.cG,_,_,_,SG.p,HT9.p,HN9.p⟩
    case pos =>
     have Cz:(j:Int)<(m:Int):=by omega
     have pK:=U rz;obtain rfl:=HCA.p (by omega);obtain ⟨sv,hsc,jM⟩:=HUC.p (1+j) (by rw [List.length_map,HM.p]; omega);obtain ⟨s,hs⟩:∃ s:List Nat,Hid (rl[1+j]'(by rw [HM.p]; omega)=s):=⟨_,U rfl⟩
     have mC:Rg.NP w sv s:=by rw [<- hs.p]; rw [List.getElem_map] at jM; exact jM
     have GS:=U (PL.p s (by rw [<- hs.p]; exact List.getElem_mem _));obtain ⟨sa,so,sc,rfl⟩:=(FP.yw mC).eC GS.p fL;have CS:=U (show CL w ub (uo+1+j) (.slice (some ⟨sa,so,none⟩) N sc) from CL.mk (by rw [Nat.add_assoc]; exact hsc) HUB.p);have NS:=U (show Rg.Ints w _ (Ma.af s) from mC);have om:=U (show (Ma.af s).length=N by rw [Ma.az,GS.p.2]);have Po:=U (show T'.length<1000000 by have:=yp.p; have:=xB.p; omega);have KW:=U SG.p.cG;clear hsc jM mC
     gi_upto_region 8 with (fail)
     refine wpIn_region_list ?_;refine Rg.ax (some 23) rfl rfl (fun _ hh=>by cases hh) (i3 (.bool true) .lss (h:=bj _ f9)) ?_;go_frame
     gi_upto_region 9 with (fail)
     refine wpIn_region_list ?_;refine Rg.ax (some 24) rfl rfl (fun _ hh=>by cases hh) (aD cp _ _ rfl ub (uo+1) (m) cm (j) rfl rfl pK.p) ?_;go_frame;refine Rg.ax (some 25) rfl rfl (fun _ hh=>by cases hh) (g9 (.slice (some ⟨sa,so,none⟩) N sc) ⟨ub,uo+1+j,none⟩ (Rg.ae _ _ Tryz.underlying27 ((Below.cell (p:=⟨ub,uo+1+j,none⟩) KW.p CS.p.lt).trans CS.p.cell))) ?_;go_frame;refine Rg.ax (some 9) rfl rfl (fun _ hh=>by cases hh) (a8 (.slice (some ⟨sa,so,none⟩) N sc) _ rfl rfl) ?_;go_frame;have NS2:=U (Ra.mk (x:=s) (Rg.NP.jj (show Rg.NP w _ s from NS.p) KW.p));clear KW;have NS3:=U (Ra.jj NS2.p ((Below.refl _ _).drew));have KQ1:=U (KQ.p.acc ((Below.refl _ _).drew))
     gi_upto_region 10 with (fail)
     have aw:Below wr.heap.size wr wr.drew:=(Below.refl _ _).drew;replace SG:=U (SG.p.up aw);generalize dS F wr wr.drew=F1 at *;clear aw;refine Rg.Any.tT (hnd:=by kernel_rfl) (S:=Rg.aI 4 (fun W=>Below wr.drew.heap.size wr.drew W) (fun _=>True)) mix ?_;generalize wr.drew=jn at *;have hS:∀ (l:Array Bool) W,Below jn.heap.size jn W->Rg.aI 4 (fun W=>Below jn.heap.size jn W) (fun _=>True) l W:=fun l W h=>⟨.inr h,trivial⟩;have bT:∀ (l:Array Bool) W,l.getD 4 false=true->Rg.aI 4 (fun W=>Below jn.heap.size jn W) (fun _=>True) l W:=fun l W h=>⟨.inl h,trivial⟩;have hI:Below jn.heap.size jn jn:=Below.refl _ _;refine i8 0 4 (.slice va T'.length vc) 26 rfl rfl (j0 ⟨tb,0,none⟩ (fun W hW=>Rg.ae _ _ Tryz.underlying41 ((Below.cell (p:=⟨tb,0,none⟩) hW SG.p.c5.lt).trans SG.p.c5.c))) (hS _ _ hI) ?_;go_frame
     refine d8 1 4 (.slice (some ⟨sa,so,none⟩) N sc) 27 (hS _ _ hI) ?_;go_frame;refine Rg.Any.one (i:=2) (by kernel_rfl) (Rg.Any.ask (some 28) rfl rfl rfl _ _ (aE 75 _ _ rfl rfl (vE _ _)) ?_);refine (oJ _ (Ma.af s) jn NS3.p.np (by rw [om.p]; exact fL) (by rw [om.p]; omega)).mono ?_;rintro e1 vF ⟨cv,rfl,hcv,hb⟩;have XM:=FP.own (F:=F1) (x:=s) hcv (by rw [om.p]; omega);obtain ⟨yb,yo,yc,rfl⟩:=FP.eC XM GS.p fL;have Bm:=KQ1.p.acc hb;have jm:=Rg.acc hI hb;clear hI;replace SG:=U (SG.p.up hb);have YV:=U XM;generalize dS F1 jn vF=F2 at *;clear hb;refine ⟨_,rfl,(hS _ _ jm),?_⟩;go_frame;obtain ⟨a9,c9,X9,r1,cJ,cE⟩:=SG.p.row.push YV.p ⟨_,_,_,rfl⟩ (fun k hk=>(SG.p.Fr k hk).2) (fun _ e=>e.elim) Po.p 41;have oG:=Rg.acc jm ((Below.refl _ _).alloc (Nat.le_refl _) (.cells #[.slice (some ⟨yb,yo,none⟩) N yc] 27))
     refine i9 3 29 rfl rfl (Rg.aN _ _ _ rfl (.slice (some ⟨yb,yo,none⟩) N yc) rfl (dx vF _ ⟨_,_,_,rfl⟩)) (hS _ _ oG) ?_;go_frame;refine i9 4 30 rfl rfl (Rg.bF _ _ _ rfl rfl rfl r1) (bT _ _ rfl) ?_;go_frame;have XN:=SG.p.c5.kp cE (fun e=>by have:=(SG.p.row.lt _ e).1; omega);refine Rg.Any.one (i:=5) (by kernel_rfl) (Rg.Any.cC none rfl rfl rfl (Rg.ai _ _ _ rfl _ rfl _ rfl (Rg.br _ eF XN.c XN.f)) (bT _ _ rfl) ?_);go_frame;refine Rg.Any.done (by kernel_rfl) ?_ _;refine Rg.nO ?_;clear bT;clear hS oG;have Vo:=SG.p.store cE cJ;have Vp:KK B w.heap.size W (X9.setCell ⟨tb,0,none⟩ (.slice a9 (T'.length+1) c9)):=(Bm.aay cE SG.p.row (by have:=SG.p.low; omega)).set _ (by have:=SG.p.low; omega);generalize X9.setCell ⟨tb,0,none⟩ (.slice a9 (T'.length+1) c9)=ZD at *
     have SG2:=U Vo;have Wr:=U Vp
     have Ws:=U (show (T'++[s]).map Ma.af=T.map Ma.af++(qO RR X).take (j+1) by
      have e:(qO RR X).take (j+1)=(qO RR X).take j++[Ma.af s]:=by
       rw [Vn.p,List.take_succ_eq_append_getElem (by rw [List.length_map,List.length_drop,HM.p]; have:=pK.p; omega),List.getElem_map,List.getElem_drop,hs.p]
      rw [List.map_append,sr.p,e,List.append_assoc]; rfl)
     have WO:=U (show (T'++[s]).length<=T.length+(j+1) by rw [List.length_append,List.length_singleton]; have:=yp.p; omega);clear Vo Vp Bm r1 cJ cE XN SG KQ KQ1 hcv XM YV
     gi_wp2
     go_roundw
     case rel=>exact ⟨j+1,_,_,_,by go_num,pK.p,SG2,Wr,Ws,WO⟩
     case measure=>simp [intOf]; have:=pK.p; omega
  case done =>
   rintro D Wd hD ⟨F,v,T,sO,xw,v8⟩ hd;have HD:=U (show w.heap.size<=D by have:=kM.p; have:=SG.p.low; omega);clear FB sD SG K;have SG:=U sO;have DF:=U hd;obtain ⟨va,vc,nR⟩:=sO.row.shape;subst nR
   have HX:=U (show Rg.Rows Wd (.slice va T.length vc) (nY ((N:Nat):Int) OO RR) by
    have e:T.map Ma.af=nY ((N:Nat):Int) OO RR:=by
     unfold nY;rw [if_pos HZ.p,xw,Nw]
    rw [<- e]
    exact sO.row.rows (by
     have:=l_ (Nat.le_refl RR.length);have h2:=congrArg List.length this;rw [List.length_map,List.length_range] at h2;have:=qp.p
     omega))
   clear sO xw v8 hd;go_upto_region 12 with (fail);refine c6 ?_;refine d4 32 (g9 (.slice va T.length vc) ⟨tb,0,none⟩ (Rg.ae _ _ Tryz.underlying41 SG.p.c5.c)) ?_;go_frame;refine d6 2 (.slice va T.length vc) ?_;go_frame;refine d6 3 (.int .i64 ((0:Nat):Int)) ?_;go_frame;go_wp2;exact B8 (ds:=[D]) SG.p.cG HX.p HZ.p rfl rfl (by simp) (fun D' fU=>by simp at fU; subst fU; exact ⟨DF.p,HD.p⟩)
end
section
open Go.RowKit
open Go.Proofs.Ob
open Go.Proofs.Cm (Gd Gr ak ap lexLt cj St)
attribute [local irreducible] Go.Calls Go.wpList
theorem Rc (args:Array Value) (w:World):(callFunc 45 args).run Tryz.prog w=.ok (.enter 45 args) w:=by kernel_rfl
theorem Hh {n:Int} (h:aW w ov rv OO RR) (hb:∀ i,eL (OO.take i)<=1000000) (hl:OO.length<=100) :
  Calls Tryz.prog 30 #[.agg #[.int .i64 n,ov,rv],.int .i64 0] w fun e w'=>e=.returned (.int .i64 ((eL OO:Nat):Int))/\Below w.heap.size w w':=by
 obtain ⟨oa,oc,rfl,-⟩:=h.1.shape;obtain ⟨ra,rc,rfl⟩:=h.2.shape;have RO:=U (iR.mk h.1);have K:=U (Below.refl w.heap.size w);clear h
 go_enter Tryz.func30,Tryz.ntmps30
 go_upto_region 0 with (fail);refine c6 ?_;have aF:=eY w (.int .i64 n) (.slice oa OO.length oc) (.slice ra RR.length rc);refine d4 2 (Rg.aY _ _ rfl rfl) ?_;go_frame;have hb:=(Below.refl w.heap.size w).alloc (Nat.le_refl _) (.cells #[.int .i64 n,.slice oa OO.length oc,.slice ra RR.length rc] 25);generalize w.alloc (.cells #[.int .i64 n,.slice oa OO.length oc,.slice ra RR.length rc] 25)=w1 at *;replace RO:=U (RO.p.jj hb);replace K:=U (Rg.acc K.p hb);clear hb;have A0:=U aF.1;have A1:=U aF.2.1;have A2:=U aF.2.2;clear aF;refine d6 4 (.int .i64 ((0:Nat):Int)) ?_;go_frame;go_upto_region 1 with (fail);refine c6 ?_;refine d5 7 (.int .i64 0) ?_;go_frame;refine d4 8 (i3 (.bool false) .neq (h:=aQ _ g7)) ?_;go_frame;go_upto_region 3 with (fail);refine c6 ?_;refine d6 5 (.int .i64 ((1:Nat):Int)) ?_;go_frame;go_upto_region 4 with (fail)
 refine c6 ?_;refine d6 6 (.int .i64 ((0:Nat):Int)) ?_;go_frame;have KL:=U (Below.refl w1.heap.size w1);go_wp2
 go_loopw [5,6] (fun nv iv wr=>∃ k:Nat,iv=.int .i64 ((k:Nat):Int)/\k<=OO.length/\nv=.int .i64 ((eL (OO.take k):Nat):Int)/\Hid (Below w1.heap.size w1 wr)) (fun _ iv _=>OO.length - (intOf iv).toNat)
 case atStart=>exact ⟨0,rfl,Nat.zero_le _,rfl,KL⟩
 case round =>
  clear KL;obtain ⟨k,rfl,hk,rfl,KL⟩:=hrel;generalize wr=wA at *;obtain ⟨P,hP⟩:∃ z,Hid (eL (OO.take k)=z):=⟨_,U rfl⟩;rw [hP.p];replace RO:=U (RO.p.jj KL.p);replace A0:=U (A0.p.jj KL.p);replace A1:=U (A1.p.jj KL.p);replace A2:=U (A2.p.jj KL.p)
  by_cases aB:k<OO.length
  case pos =>
   obtain ⟨lb,lo,_,_,e1,cZ,cF,dg⟩:=jy RO.p.r (i:=k) aB;subst e1;obtain ⟨pm,qa,qc,nh,gG,-⟩:=dg.len;rw [gG] at cF;have CX:=U (CL.mk cF cZ)
   have XO:eL (OO.take (k+1))=P*pm:=by rw [List.take_succ_eq_append_getElem aB,qt,hP.p,nh]
   have hq:=hb (k+1);rw [XO] at hq;obtain ⟨Q,hQ⟩:∃ z,P*pm=z:=⟨_,rfl⟩;rw [hQ] at XO hq
   have hmul:((P:Nat):Int)*((pm:Nat):Int)=((Q:Nat):Int):=by rw [<- hQ]; exact (Int.natCast_mul P pm).symm
   clear cZ cF dg gG;go_upto_region 5 with (fail);refine c6 ?_;refine d5 9 (.int .i64 ((k:Nat):Int)) ?_;go_frame;refine d4 10 (ag _ rfl rfl (iZ _ _)) ?_;go_frame;refine d4 11 (g9 (.slice (some ⟨lb,lo,none⟩) OO.length oc) ⟨w.heap.size,1,none⟩ (Rg.ae _ _ Tryz.underlying22 A1.p.cell)) ?_;go_frame;refine d4 12 (i4 Tryz.underlying22) ?_;go_frame;refine d4 13 (i3 (.bool true) .lss (h:=bj _ f9)) ?_;go_frame;go_upto_region 7 with (fail);refine c6 ?_;refine d5 16 (.int .i64 ((P:Nat):Int)) ?_;go_frame;refine d4 17 (ag _ rfl rfl (iZ _ _)) ?_;go_frame;refine d4 18 (g9 (.slice (some ⟨lb,lo,none⟩) OO.length oc) ⟨w.heap.size,1,none⟩ (Rg.ae _ _ Tryz.underlying22 A1.p.cell)) ?_;go_frame;refine d5 19 (.int .i64 ((k:Nat):Int)) ?_;go_frame;refine d4 20 (aD ef _ _ rfl lb (lo) (OO.length) oc (k) rfl rfl (by omega)) ?_;go_frame
   refine d4 21 (g9 (.slice qa pm qc) ⟨lb,lo+k,none⟩ (Rg.ae _ _ Tryz.underlying26 CX.p.cell)) ?_;go_frame;refine d4 22 (i4 Tryz.underlying26) ?_;go_frame;refine d4 23 (i3 (.int .i64 ((Q:Nat):Int)) .mul (h:=Im _ hmul (by omega))) ?_;go_frame;refine d6 5 (.int .i64 ((Q:Nat):Int)) ?_;go_frame;go_upto_region 6 with (fail);refine c6 ?_;refine d5 14 (.int .i64 ((k:Nat):Int)) ?_;go_frame;refine d4 15 (i3 (.int .i64 (((k+1):Nat):Int)) .add (h:=cg _ (by omega) (by omega))) ?_;go_frame;refine d6 6 (.int .i64 (((k+1):Nat):Int)) ?_;go_frame;clear CX;go_wp2
   go_roundw
   case rel=>exact ⟨k+1,by go_num,aB,by rw [XO],KL⟩
   case measure=>simp [intOf]; omega
  obtain rfl:k=OO.length:=by omega
  have HX:=U (show eL OO=P by rw [<- hP.p,List.take_length]);replace K:=U (K.p.trans (KL.p.mono K.p.size));clear KL;go_upto_region 5 with (fail);refine c6 ?_;refine d5 9 (.int .i64 ((OO.length:Nat):Int)) ?_;go_frame;refine d4 10 (ag _ rfl rfl (iZ _ _)) ?_;go_frame;refine d4 11 (g9 (.slice oa OO.length oc) ⟨w.heap.size,1,none⟩ (Rg.ae _ _ Tryz.underlying22 A1.p.cell)) ?_;go_frame;refine d4 12 (i4 Tryz.underlying22) ?_;go_frame;refine d4 13 (i3 (.bool false) .lss (h:=bj _ g7)) ?_;go_frame;go_upto_region 8 with (fail);refine c6 ?_;refine d5 24 (.int .i64 ((P:Nat):Int)) ?_;go_frame;refine d6 4 (.int .i64 ((P:Nat):Int)) ?_;go_frame;go_wp2;go_ret;exact ⟨by rw [HX.p]; rfl,K.p⟩
theorem rQ {n:Int} (h:aW w ov rv OO RR) :
  Calls Tryz.prog 71 #[.agg #[.int .i64 n,ov,rv]] w fun e w'=>∃ v,e=.returned v/\Rg.Rows w' v (nY n OO RR)/\Below w.heap.size w w':=by
 obtain ⟨oa,oc,rfl,-⟩:=h.1.shape;obtain ⟨ra,rc,rfl⟩:=h.2.shape;have CE:=U h;have K:=U (Below.refl w.heap.size w);clear h
 go_enter Tryz.func71,Tryz.ntmps71
 go_upto_region 0 with (fail);refine c6 ?_;have aF:=eY w (.int .i64 n) (.slice oa OO.length oc) (.slice ra RR.length rc);refine d4 1 (Rg.aY _ _ rfl rfl) ?_;go_frame;have hb:=(Below.refl w.heap.size w).alloc (Nat.le_refl _) (.cells #[.int .i64 n,.slice oa OO.length oc,.slice ra RR.length rc] 25);generalize w.alloc (.cells #[.int .i64 n,.slice oa OO.length oc,.slice ra RR.length rc] 25)=w1 at *;replace CE:=U (CE.p.jj hb);replace K:=U (Rg.acc K.p hb);clear hb;have A0:=U aF.1;have A1:=U aF.2.1;have A2:=U aF.2.2;clear aF;refine d6 2 (.slice none 0 0) ?_;go_frame;go_upto_region 1 with (fail);refine c6 ?_;refine d4 6 (g9 ((.agg #[.int .i64 n,.slice oa OO.length oc,.slice ra RR.length rc])) ⟨w.heap.size,0,none⟩ (aq A0.p.cell A1.p.cell A2.p.cell)) ?_;go_frame;refine f8 7 (aE 45 _ _ rfl rfl (Rc _ _)) ?_;refine (rP (n:=n) CE.p).mono ?_
 rintro e1 w2 ⟨sv,rfl,nR,hb⟩;have ur:=iR.mk nR;obtain ⟨sa,sc,rfl,-⟩:=nR.shape;refine ⟨_,rfl,?_⟩;go_frame;replace CE:=U (CE.p.jj hb);replace A0:=U (A0.p.jj hb);replace A1:=U (A1.p.jj hb);replace A2:=U (A2.p.jj hb);replace K:=U (Rg.acc K.p hb);clear hb;have RS9:=U ur;refine d5 5 ((.tuple #[.slice sa (nY n OO RR).length sc,.int .i64 (bn n OO RR)])) ?_;go_frame;refine d4 8 (i7 (.slice sa (nY n OO RR).length sc)) ?_;go_frame;refine d4 9 (i7 (.int .i64 (bn n OO RR))) ?_;go_frame;refine d6 3 (.slice sa (nY n OO RR).length sc) ?_;go_frame;refine d6 4 (.int .i64 (bn n OO RR)) ?_;go_frame;clear nR ur;go_upto_region 2 with (fail);refine c6 ?_;refine d5 10 (.slice sa (nY n OO RR).length sc) ?_;go_frame;refine d6 2 (.slice sa (nY n OO RR).length sc) ?_;go_frame;go_wp2;go_ret;exact ⟨_,rfl,RS9.p.r,K.p⟩

theorem q6 (h:Rg.Rows w v ll) {ll':List (List Int)} (e:ll=ll'):Rg.Rows w v ll':=e▸h
theorem o_ {s:List Nat} (h:Ma.bB (Ma.af s)=0/\s.length=N):Gd N s:=by
 obtain ⟨p,e,hp⟩:=Ma.lQ (Ma.jh h.1).2.2;rw [<- Ma.nE e] at hp;exact ⟨hp,h.2⟩
theorem JW (w:World) :
  Calls Tryz.prog 47 #[] w fun e w'=>∃ (oa:Option Addr) (on oc:Nat) (ra:Option Addr) (rn rc:Nat) (O:List (List Nat)) (R:List (List (List Nat))),e=.returned (.agg #[.int .i64 ((4:Nat):Int),.slice oa on oc,.slice ra rn rc])/\(aW w' (.slice oa on oc) (.slice ra rn rc) (O.map Ma.af) (R.map (List.map Ma.af))/\ak 4 (Gr 4 (·∈([[1,2,3,0],[1,0,2,3]]:List (List Nat)))) O R)/\Below w.heap.size w w':=by
 have K:=U (Below.refl w.heap.size w)
 go_enter Tryz.func47,Tryz.ntmps47
 go_upto_region 0 with (fail);refine c6 ?_;have bX:=bM.new w (.int .i64 0) (.slice none 0 0) (.slice none 0 0);refine d4 0 (aU rfl) ?_;go_frame;have hb:=(Below.refl w.heap.size w).alloc (Nat.le_refl _) (.cells #[.int .i64 0,.slice none 0 0,.slice none 0 0] 25);generalize w.alloc (.cells #[.int .i64 0,.slice none 0 0,.slice none 0 0] 25)=w1 at *;replace K:=U (Rg.acc K.p hb);clear hb;have C0:=U bX;clear bX;have HB:=U (show w.heap.size<w1.heap.size from C0.p.lt);go_upto_region 1 with (fail);refine c6 ?_;have cK:=jw w1 3 [1,2,3,0] (by decide);refine d4 4 (gU _ _ 4 _ rfl [1,2,3,0] Tryz.underlying27 pX wI rfl (by decide) (by decide) rfl) ?_;go_frame;have hb:=(Below.refl w1.heap.size w1).alloc (Nat.le_refl _) (.cells (([1,2,3,0]:List Int).map (Value.int .i64)).toArray 3);generalize w1.alloc (.cells (([1,2,3,0]:List Int).map (Value.int .i64)).toArray 3)=w2 at *
 replace C0:=U (C0.p.jj hb);replace K:=U (Rg.acc K.p hb);clear hb;have I0:=U cK;clear cK;have cK:=jw w2 3 [1,0,2,3] (by decide);refine d4 5 (gU _ _ 4 _ rfl [1,0,2,3] Tryz.underlying27 pX wI rfl (by decide) (by decide) rfl) ?_;go_frame;have hb:=(Below.refl w2.heap.size w2).alloc (Nat.le_refl _) (.cells (([1,0,2,3]:List Int).map (Value.int .i64)).toArray 3);generalize w2.alloc (.cells (([1,0,2,3]:List Int).map (Value.int .i64)).toArray 3)=w3 at *;replace C0:=U (C0.p.jj hb);replace I0:=U (I0.p.jj hb);replace K:=U (Rg.acc K.p hb);clear hb;have I1:=U cK;clear cK;have hro:=iR.mk (q6 (ju I0.p I1.p 27) (show _=([[1,2,3,0],[1,0,2,3]]:List (List Nat)).map Ma.af from rfl));refine d4 6 (gI _ _ _ rfl rfl rfl (qL w3 ..)) ?_;go_frame;have hb:=(Below.refl w3.heap.size w3).alloc (Nat.le_refl _) (.cells #[.slice (some ⟨w1.heap.size,0,none⟩) 4 4,.slice (some ⟨w2.heap.size,0,none⟩) 4 4] 27)
 generalize w3.alloc (.cells #[.slice (some ⟨w1.heap.size,0,none⟩) 4 4,.slice (some ⟨w2.heap.size,0,none⟩) 4 4] 27)=w4 at *;replace C0:=U (C0.p.jj hb);replace I0:=U (I0.p.jj hb);replace I1:=U (I1.p.jj hb);replace K:=U (Rg.acc K.p hb);clear hb;have RO:=U hro;clear hro;refine f8 7 (aj 42 _ _ _ rfl rfl rfl (o6 _ _)) ?_;refine (jR (N:=4) (by decide) (by decide) (gs:=[[1,2,3,0],[1,0,2,3]]) (by decide) (fun s hs=>o_ ((by decide +kernel:∀ s∈([[1,2,3,0],[1,0,2,3]]:List (List Nat)),Ma.bB (Ma.af s)=0/\s.length=4) s hs)) _ w4 RO.p.r).mono ?_;rintro e1 w5 ⟨ma,mn,mc,na,nn,nc,O0,R0,rfl,dp,hb⟩;have QV:=U dp;clear dp;have Re:=U C0.p.lt;have G3:Nu w5 w5:=⟨Below.refl _ _⟩;refine ⟨_,rfl,?_⟩;go_frame;replace C0:=U (C0.p.jj hb);replace I0:=U (I0.p.jj hb);replace I1:=U (I1.p.jj hb)
 replace RO:=U (RO.p.jj hb);replace K:=U (Rg.acc K.p hb);clear hb;have KY:=U G3;refine d5 3 ((.tuple #[.agg #[.int .i64 ((4:Nat):Int),.slice ma mn mc,.slice na nn nc],.int .i64 0])) ?_;go_frame;refine d4 8 (i7 (.agg #[.int .i64 ((4:Nat):Int),.slice ma mn mc,.slice na nn nc])) ?_;go_frame;refine d4 9 (i7 (.int .i64 0)) ?_;go_frame;refine d4 1 (aU rfl) ?_;go_frame;refine Rg.aA none rfl rfl (Rg.ai _ _ _ rfl _ rfl _ rfl (aM _ _ _ _ _ _ _ (bM.new w5 (.int .i64 0) (.slice none 0 0) (.slice none 0 0)))) ?_;go_frame;have eA:=(bM.new w5 (.int .i64 0) (.slice none 0 0) (.slice none 0 0)).set (.int .i64 ((4:Nat):Int)) (.slice ma mn mc) (.slice na nn nc);have hb:=((((Below.refl w5.heap.size w5).alloc (Nat.le_refl _) (.cells #[.int .i64 0,.slice none 0 0,.slice none 0 0] 25)).setCell (p:=⟨w5.heap.size,0,none⟩) (Nat.le_refl _) (.int .i64 ((4:Nat):Int))).setCell (p:=⟨w5.heap.size,1,none⟩) (Nat.le_refl _) (.slice ma mn mc)).setCell (p:=⟨w5.heap.size,2,none⟩) (Nat.le_refl _) (.slice na nn nc)
 generalize (((w5.alloc (.cells #[.int .i64 0,.slice none 0 0,.slice none 0 0] 25)).setCell ⟨w5.heap.size,0,none⟩ (.int .i64 ((4:Nat):Int))).setCell ⟨w5.heap.size,1,none⟩ (.slice ma mn mc)).setCell ⟨w5.heap.size,2,none⟩ (.slice na nn nc)=w6 at *;replace C0:=U (C0.p.jj hb);replace I0:=U (I0.p.jj hb);replace I1:=U (I1.p.jj hb);replace RO:=U (RO.p.jj hb);replace KY:=U (KY.p.jj hb);replace K:=U (Rg.acc K.p hb);clear hb;have T1:=U eA;clear eA;refine d6 2 (.int .i64 0) ?_;go_frame;go_upto_region 2 with (fail);refine c6 ?_;refine d4 10 (g9 ((.agg #[.int .i64 ((4:Nat):Int),.slice ma mn mc,.slice na nn nc])) ⟨w5.heap.size,0,none⟩ (aq T1.p.c0 T1.p.c1 T1.p.c2)) ?_;go_frame;refine Rg.aA none rfl rfl (Rg.ai _ _ _ rfl _ rfl _ rfl (aM _ _ _ _ _ _ _ C0.p)) ?_;go_frame;have y4:=C0.p.set (.int .i64 ((4:Nat):Int)) (.slice ma mn mc) (.slice na nn nc)
 have hk:=eN w6 w.heap.size (.int .i64 ((4:Nat):Int)) (.slice ma mn mc) (.slice na nn nc);generalize ((w6.setCell ⟨w.heap.size,0,none⟩ (.int .i64 ((4:Nat):Int))).setCell ⟨w.heap.size,1,none⟩ (.slice ma mn mc)).setCell ⟨w.heap.size,2,none⟩ (.slice na nn nc)=w7 at *;clear G3;obtain ⟨g1,g2,g3⟩:=QV.p;have nS:=Rg.Kp.jj K.p hk (fun z hz=>by omega);have q1:=(g1.kp (M:=fun _=>False) (Rg.Kp.aC KY.p.h) (fun _ _=>id)).kp hk (fun z hz e=>by have:=HB.p; have:=Re.p; omega);have q2:=(g2.kp (M:=fun _=>False) (Rg.Kp.aC KY.p.h) (fun _ _=>id)).kp hk (fun z hz e=>by have:=HB.p; have:=Re.p; omega);go_wp2;exact bodyPost_ret (lZ (p:=0) rfl _ rfl y4) rfl ⟨_,_,_,_,_,_,O0,R0,rfl,⟨⟨aG.rows q1,bg.rows q2⟩,g3⟩,nS⟩
theorem JX (w:World) :
  Calls Tryz.prog 50 #[] w fun e w'=>∃ (oa:Option Addr) (on oc:Nat) (ra:Option Addr) (rn rc:Nat) (O:List (List Nat)) (R:List (List (List Nat))),e=.returned (.agg #[.int .i64 ((4:Nat):Int),.slice oa on oc,.slice ra rn rc])/\(aW w' (.slice oa on oc) (.slice ra rn rc) (O.map Ma.af) (R.map (List.map Ma.af))/\ak 4 (Gr 4 (·∈([[0,1,3,2]]:List (List Nat)))) O R)/\Below w.heap.size w w':=by
 have K:=U (Below.refl w.heap.size w)
 go_enter Tryz.func50,Tryz.ntmps50
 go_upto_region 0 with (fail);refine c6 ?_;have bX:=bM.new w (.int .i64 0) (.slice none 0 0) (.slice none 0 0);refine d4 0 (aU rfl) ?_;go_frame;have hb:=(Below.refl w.heap.size w).alloc (Nat.le_refl _) (.cells #[.int .i64 0,.slice none 0 0,.slice none 0 0] 25);generalize w.alloc (.cells #[.int .i64 0,.slice none 0 0,.slice none 0 0] 25)=w1 at *;replace K:=U (Rg.acc K.p hb);clear hb;have C0:=U bX;clear bX;have HB:=U (show w.heap.size<w1.heap.size from C0.p.lt);go_upto_region 1 with (fail);refine c6 ?_;have cK:=jw w1 3 [0,1,3,2] (by decide);refine d4 4 (gU _ _ 4 _ rfl [0,1,3,2] Tryz.underlying27 pX wI rfl (by decide) (by decide) rfl) ?_;go_frame;have hb:=(Below.refl w1.heap.size w1).alloc (Nat.le_refl _) (.cells (([0,1,3,2]:List Int).map (Value.int .i64)).toArray 3);generalize w1.alloc (.cells (([0,1,3,2]:List Int).map (Value.int .i64)).toArray 3)=w2 at *
 replace C0:=U (C0.p.jj hb);replace K:=U (Rg.acc K.p hb);clear hb;have I0:=U cK;clear cK;have hro:=iR.mk (q6 (o8 I0.p 27) (show _=([[0,1,3,2]]:List (List Nat)).map Ma.af from rfl));refine d4 5 (Rg.aN _ _ _ rfl (.slice (some ⟨w1.heap.size,0,none⟩) 4 4) rfl (dx w2 _ ⟨_,_,_,rfl⟩)) ?_;go_frame;have hb:=(Below.refl w2.heap.size w2).alloc (Nat.le_refl _) (.cells #[.slice (some ⟨w1.heap.size,0,none⟩) 4 4] 27);generalize w2.alloc (.cells #[.slice (some ⟨w1.heap.size,0,none⟩) 4 4] 27)=w3 at *;replace C0:=U (C0.p.jj hb);replace I0:=U (I0.p.jj hb);replace K:=U (Rg.acc K.p hb);clear hb;have RO:=U hro;clear hro;refine f8 6 (aj 42 _ _ _ rfl rfl rfl (o6 _ _)) ?_;refine (jR (N:=4) (by decide) (by decide) (gs:=[[0,1,3,2]]) (by decide) (fun s hs=>o_ ((by decide +kernel:∀ s∈([[0,1,3,2]]:List (List Nat)),Ma.bB (Ma.af s)=0/\s.length=4) s hs)) _ w3 RO.p.r).mono ?_
 rintro e1 w4 ⟨ma,mn,mc,na,nn,nc,O0,R0,rfl,dp,hb⟩;have QV:=U dp;clear dp;have Re:=U C0.p.lt;have G3:Nu w4 w4:=⟨Below.refl _ _⟩;refine ⟨_,rfl,?_⟩;go_frame;replace C0:=U (C0.p.jj hb);replace I0:=U (I0.p.jj hb);replace RO:=U (RO.p.jj hb);replace K:=U (Rg.acc K.p hb);clear hb;have KY:=U G3;refine d5 3 ((.tuple #[.agg #[.int .i64 ((4:Nat):Int),.slice ma mn mc,.slice na nn nc],.int .i64 0])) ?_;go_frame;refine d4 7 (i7 (.agg #[.int .i64 ((4:Nat):Int),.slice ma mn mc,.slice na nn nc])) ?_;go_frame;refine d4 8 (i7 (.int .i64 0)) ?_;go_frame;refine d4 1 (aU rfl) ?_;go_frame;refine Rg.aA none rfl rfl (Rg.ai _ _ _ rfl _ rfl _ rfl (aM _ _ _ _ _ _ _ (bM.new w4 (.int .i64 0) (.slice none 0 0) (.slice none 0 0)))) ?_;go_frame;have eA:=(bM.new w4 (.int .i64 0) (.slice none 0 0) (.slice none 0 0)).set (.int .i64 ((4:Nat):Int)) (.slice ma mn mc) (.slice na nn nc)
 have hb:=((((Below.refl w4.heap.size w4).alloc (Nat.le_refl _) (.cells #[.int .i64 0,.slice none 0 0,.slice none 0 0] 25)).setCell (p:=⟨w4.heap.size,0,none⟩) (Nat.le_refl _) (.int .i64 ((4:Nat):Int))).setCell (p:=⟨w4.heap.size,1,none⟩) (Nat.le_refl _) (.slice ma mn mc)).setCell (p:=⟨w4.heap.size,2,none⟩) (Nat.le_refl _) (.slice na nn nc);generalize (((w4.alloc (.cells #[.int .i64 0,.slice none 0 0,.slice none 0 0] 25)).setCell ⟨w4.heap.size,0,none⟩ (.int .i64 ((4:Nat):Int))).setCell ⟨w4.heap.size,1,none⟩ (.slice ma mn mc)).setCell ⟨w4.heap.size,2,none⟩ (.slice na nn nc)=w5 at *;replace C0:=U (C0.p.jj hb);replace I0:=U (I0.p.jj hb);replace RO:=U (RO.p.jj hb);replace KY:=U (KY.p.jj hb);replace K:=U (Rg.acc K.p hb);clear hb;have T1:=U eA;clear eA;refine d6 2 (.int .i64 0) ?_;go_frame;go_upto_region 2 with (fail);refine c6 ?_
 refine d4 9 (g9 ((.agg #[.int .i64 ((4:Nat):Int),.slice ma mn mc,.slice na nn nc])) ⟨w4.heap.size,0,none⟩ (aq T1.p.c0 T1.p.c1 T1.p.c2)) ?_;go_frame;refine Rg.aA none rfl rfl (Rg.ai _ _ _ rfl _ rfl _ rfl (aM _ _ _ _ _ _ _ C0.p)) ?_;go_frame;have y4:=C0.p.set (.int .i64 ((4:Nat):Int)) (.slice ma mn mc) (.slice na nn nc);have hk:=eN w5 w.heap.size (.int .i64 ((4:Nat):Int)) (.slice ma mn mc) (.slice na nn nc);generalize ((w5.setCell ⟨w.heap.size,0,none⟩ (.int .i64 ((4:Nat):Int))).setCell ⟨w.heap.size,1,none⟩ (.slice ma mn mc)).setCell ⟨w.heap.size,2,none⟩ (.slice na nn nc)=w6 at *;clear G3;obtain ⟨g1,g2,g3⟩:=QV.p;have nS:=Rg.Kp.jj K.p hk (fun z hz=>by omega);have q1:=(g1.kp (M:=fun _=>False) (Rg.Kp.aC KY.p.h) (fun _ _=>id)).kp hk (fun z hz e=>by have:=HB.p; have:=Re.p; omega)
 have q2:=(g2.kp (M:=fun _=>False) (Rg.Kp.aC KY.p.h) (fun _ _=>id)).kp hk (fun z hz e=>by have:=HB.p; have:=Re.p; omega);go_wp2;exact bodyPost_ret (lZ (p:=0) rfl _ rfl y4) rfl ⟨_,_,_,_,_,_,O0,R0,rfl,⟨⟨aG.rows q1,bg.rows q2⟩,g3⟩,nS⟩

theorem Hi {Rf LL:List (List Nat)} {Pb:List Nat->Bool} (hL:gN N Rf LL) (hG:cj N (fun z=>Gr N (·∈Rf) z/\Pb z=true)) (h1:∀ s∈gs,s∈LL/\Pb s=true) (h2:∀ x,x∈LL->Pb x=true->Gr N (·∈gs) x):(∀ s∈gs,Gd N s)/\gN N gs (LL.filter Pb):=by
 refine ⟨fun s hs=>hG.gd s ⟨(hL.2 s).1 (h1 s hs).1,(h1 s hs).2⟩,?_,fun y=>?_⟩
 ·have:=(jN _).1 hL.1
  rw [List.pairwise_map] at this;rw [jN,List.pairwise_map];exact this.filter _
 ·rw [List.mem_filter]
  constructor
  ·rintro ⟨ha,hb⟩
   exact h2 y ha hb
  ·intro hy
   have:=Gr.sub hG (fun s hs=>⟨(hL.2 s).1 (h1 s hs).1,(h1 s hs).2⟩) hy;exact ⟨(hL.2 y).2 this.1,this.2⟩
theorem Rh {Rf LL:List (List Nat)} {Pb:List Nat->Bool} (hL:gN N Rf LL) (hG:cj N (fun z=>Gr N (·∈Rf) z/\Pb z=true)) (h1:∀ s∈gs,s∈LL/\Pb s=true) (h2:∀ x,x∈LL->Pb x=true->Gr N (·∈gs) x) (hc:ak N (Gr N (·∈gs)) O R):eL (O.map Ma.af)=(LL.filter Pb).length:=by
 obtain ⟨a,b⟩:=Hi hL hG h1 h2;exact JP a hc b
theorem Hj {K:List Nat->Prop} (h:cj N H) (h1:K (Ma.bh N)) (h2:∀ x y,Gd N x->Gd N y->K x->K y->K (Ma.ar x y)) (h3:∀ x,Gd N x->K x->K (Ma.aX x)):cj N (fun z=>H z/\K z) :=
 ⟨fun x hx=>h.gd x hx.1,⟨h.one,h1⟩,fun x y hx hy=>⟨h.mul x y hx.1 hy.1,h2 x y (h.gd x hx.1) (h.gd y hy.1) hx.2 hy.2⟩,fun x hx=>⟨h.inv x hx.1,h3 x (h.gd x hx.1) hx.2⟩⟩
theorem T8 (h:cj N H) {x:List Nat} (gx:Gd N x):cj N (fun z=>H z/\decide (dz x z=x)=true):=by
 have key:∀ g,Gd N g->(decide (dz x g=x)=true↔∀ i,i<N->ap x (ap g i)=ap g (ap x i)):=fun g gg=>by
  rw [XJ gx gx gg];unfold XI;exact decide_eq_true_iff
 refine Hj h ((key _ (h.gd _ h.one)).2 fun i hi=>?_) (fun a b ga gb ha hb=>(key _ (Cm.aT ga gb)).2 fun i hi=>?_) fun a ga ha=>(key _ (Cm.aH ga)).2 fun i hi=>?_
 ·rw [Cm.cD hi,Cm.cD (Cm.bI gx hi)]
 ·rw [Cm.bs ga hi,Cm.bs ga (Cm.bI gx hi),(key b gb).1 hb _ (Cm.bI ga hi),(key a ga).1 ha i hi]
 ·have hj:=Cm.bI (Cm.aH ga) hi
  have e:=(key a ga).1 ha _ hj;rw [Cm.gA ga hi] at e;rw [e,Cm.eW ga (Cm.bI gx hj)]
theorem T_ (h:cj N H) {s:List Nat} (hs:pz (Ma.af s)) (iF:∀ y∈s,y<N):cj N (fun z=>H z/\decide (Ob.jk (Ma.af (s.map (ap z)))=Ma.af s)=true):=by
 have mC:s.Nodup:=by
  rw [List.nodup_iff_pairwise_ne]
  exact (DW (uE hs)).imp fun h=>by omega
 have key:∀ g,Gd N g->(decide (Ob.jk (Ma.af (s.map (ap g)))=Ma.af s)=true↔∀ y∈s,ap g y∈s):=fun g gg=>by
  rw [JU hs hs iF gg];unfold TY;rw [decide_eq_true_iff];exact ⟨fun h=>h.2,fun h=>⟨rfl,h⟩⟩
 refine Hj h ((key _ (h.gd _ h.one)).2 fun y hy=>by rw [Cm.cD (iF y hy)]; exact hy) (fun a b ga gb ha hb=>(key _ (Cm.aT ga gb)).2 fun y hy=>?_) fun a ga ha=>(key _ (Cm.aH ga)).2 fun y hy=>?_
 ·rw [Cm.bs ga (iF y hy)]
  exact (key b gb).1 hb _ ((key a ga).1 ha y hy)
 ·refine Classical.byContradiction fun hc=>?_
  have hm:=(key a ga).1 ha
  have hnd:(s.map (ap a)).Nodup:=by
   rw [List.nodup_iff_pairwise_ne,List.pairwise_map];refine List.Pairwise.imp_of_mem ?_ (List.nodup_iff_pairwise_ne.1 mC);intro u v hu hv huv e;exact huv (Cm.iu ga (iF u hu) (iF v hv) e)
  have:=fG (l:=y :: s.map (ap a)) (m:=s) (List.nodup_cons.2 ⟨fun hy2=>by
   obtain ⟨z,hz,e⟩:=List.mem_map.1 hy2
   apply hc
   rw [<- e,Cm.eW ga (iF z hz)]
   exact hz,hnd⟩) fun z hz=>by
    rcases List.mem_cons.1 hz with rfl | hz
    ·exact hy
    ·obtain ⟨u,hu,rfl⟩:=List.mem_map.1 hz
     exact hm u hu
  rw [List.length_cons,List.length_map] at this;omega

theorem sS {L W:List (List Nat)} (h1:W.map (evalW N gs)=L) (h2:(gs.all fun s=>L.contains s)=true) (h3:(L.all fun x=>Ww N x && L.contains (Ma.aX x) && L.all fun y=>L.contains (Ma.ar x y))=true) (h4:L.contains (Ma.bh N)=true) (h5:MU (L.map Ma.af)):gN N gs L:=by
 rw [List.all_eq_true] at h2 h3
 have hh:∀ x∈L,Gd N x/\Ma.aX x∈L/\∀ y∈L,Ma.ar x y∈L:=fun x hx=>by
  have:=h3 x hx;rw [Bool.and_eq_true,Bool.and_eq_true,List.all_eq_true] at this;exact ⟨S6 this.1.1,by simpa using this.1.2,fun y hy=>by simpa using this.2 y hy⟩
 have hG:cj N (·∈L):=⟨fun x hx=>(hh x hx).1,by simpa using h4,fun x y hx hy=>(hh x hx).2.2 y hy,fun x hx=>(hh x hx).2.1⟩;refine ⟨h5,fun y=>⟨fun hy=>?_,fun hy=>Gr.sub hG (fun s hs=>by simpa using h2 s hs) hy⟩⟩;rw [<- h1] at hy;obtain ⟨w,_,rfl⟩:=List.mem_map.1 hy;exact Mz w
def ny:List (List Nat):=[[0,1,2,3],[0,1,3,2],[0,2,1,3],[0,2,3,1],[0,3,1,2],[0,3,2,1],[1,0,2,3],[1,0,3,2],[1,2,0,3],[1,2,3,0],[1,3,0,2],[1,3,2,0],[2,0,1,3],[2,0,3,1],[2,1,0,3],[2,1,3,0],[2,3,0,1],[2,3,1,0],[3,0,1,2],[3,0,2,1],[3,1,0,2],[3,1,2,0],[3,2,0,1],[3,2,1,0]]
theorem uF:gN 4 [[1,2,3,0],[1,0,2,3]] ny:=sS (W:=[[],[0,0,1,0,0],[0,0,0,1,0],[0,1],[0,1,0,1],[1,0,0,1,0],[1],[0,0,1,0,0,1],[0,0,0,1,0,1],[0],[0,1,0],[0,0,0,1,0,0],[0,1,0,0],[1,0,1],[0,1,0,0,1],[1,0],[0,0],[0,0,1],[0,0,0],[0,0,1,0],[0,0,0,1],[0,0,1,0,1],[1,0,0],[1,0,0,1]]) (by decide +kernel) (by decide +kernel) (by decide +kernel) (by decide +kernel) ((jN _).2 (by decide +kernel))
def Rl:List (List Nat):=[[0,1,2,3],[0,1,3,2]]
theorem DZ:gN 4 [[0,1,3,2]] Rl:=sS (W:=[[],[0]]) (by decide +kernel) (by decide +kernel) (by decide +kernel) (by decide +kernel) ((jN _).2 (by decide +kernel))
theorem JY {L:List (List Int)} (h:MU L):L.Pairwise (fun a b=>bQ b a=false):=((jN _).1 h).imp fun {a b} gi=>by
 cases e:bQ b a with
 | false=>rfl
 | true=>have:=uf gi e; rw [oV] at this; cases this
theorem XP {B:List (List Nat)} (hA:gN N gs A) (hB:gN N gs B):A=B:=by
 have h1:=(jN _).1 hA.1;have h2:=(jN _).1 hB.1;refine M1 (List.perm_iff_count.2 fun a=>?_) (JY hA.1) (JY hB.1);rw [(fZ hA.1).count,(fZ hB.1).count];have:=(hA.2 a).trans (hB.2 a).symm
 by_cases h:a∈A
 ·rw [if_pos h,if_pos (this.1 h)]
 ·rw [if_neg h,if_neg (fun h'=>h (this.2 h'))]
theorem B9 (hc:ak 4 (Gr 4 (·∈([[1,2,3,0],[1,0,2,3]]:List (List Nat)))) O R):gQ 4 O R=ny :=
 XP (fI (fun s hs=>o_ ((by decide +kernel:∀ s∈([[1,2,3,0],[1,0,2,3]]:List (List Nat)),Ma.bB (Ma.af s)=0/\s.length=4) s hs)) hc) uF
theorem XQ:(ny.filter (qM [1,0,2,3] [1,0,2,3])).length=4:=by decide +kernel
theorem XR:(ny.filter (qN [0,1] [0,1])).length=4:=by decide +kernel
theorem BR.at {LL:List (List Nat)} {Pb:List Nat->Bool} {e:Ending} {k0:Nat} (h:BR LL Pb e w) (h1:LL.findIdx Pb=k0) (h2:k0<LL.length):∃ x,e=.returned (.tuple #[x,.int .i64 0])/\Rg.NP w x (LL.getD k0 []):=by
 have ht:Pb (LL.getD k0 [])=true:=by
  subst h1;rw [List.getD_eq_getElem?_getD,List.getElem?_eq_getElem h2];exact List.findIdx_getElem
 have hf:∀ i,i<k0->Pb (LL.getD i [])=false:=fun i hi=>by
  have h3:i<LL.findIdx Pb:=by omega
  have h4:i<LL.length:=by omega
  rw [List.getD_eq_getElem?_getD,List.getElem?_eq_getElem h4]
  simpa using List.not_of_lt_findIdx h3
 rcases h with ⟨g1,_⟩ | ⟨k,x,g1,g2,g3,g4,g5⟩
 ·rw [g1 k0 h2] at ht; cases ht
 ·have e1:k=k0:=by
   rcases Nat.lt_trichotomy k k0 with h | h | h
   ·rw [hf k h] at g2; cases g2
   ·exact h
   ·rw [g3 k0 h] at ht; cases ht
  subst e1;exact ⟨x,g4,g5⟩
theorem XS:ny.findIdx (qM [1,0,2,3] [0,1,3,2])=16:=by decide +kernel

structure XT (Fk:Nat->Prop) (lv ov rv:Value) (gens:List (List Nat)) (OO:List (List Int)) (RR:List (List (List Int))) (W:World):Prop where
 l:Rg.aG Fk W lv (gens.map Ma.af)
 o:Rg.aG Fk W ov OO
 r:bg Fk W rv RR
noncomputable def w_ (n:Int) (OO:List (List Int)) (RR:List (List (List Int))) (gens:List (List Nat)) (g:List Nat):Bool:=gens.all fun x=>nX n OO RR (Ma.af (dz x g))
theorem XV (h1:1<=N) (h2:N<=64) {lv:Value} {gens:List (List Nat)} {n:Int} (ft:∀ x∈gens,Gd N x) (h:XT Fk lv ov rv gens OO RR W):lL N (.iface 99 (.agg #[lv,.int .i64 n,ov,rv])) (fun g=>gens.all fun x=>nX n OO RR (Ma.af (dz x g))) Fk (XT Fk lv ov rv gens OO RR) W :=
 ⟨⟨⟨207,.agg #[lv,.int .i64 n,ov,rv],fun gv W=>by kernel_rfl,fun W gv g hA hg gg=>GD h1 h2 lv ov rv gv gens n OO RR g W (aG.rows hA.l) ft ⟨aG.rows hA.o,bg.rows hA.r⟩ hg gg⟩,fun W W' hA hs=>⟨kS hA.l hs,kS hA.o hs,o7 hA.r hs⟩,fun C W W' hA hk hC=>⟨hA.l.kp hk hC,hA.o.kp hk hC,hA.r.kp hk hC⟩⟩,h⟩
theorem Ll (h1:1<=N) (h2:N<=64) {gens:List (List Nat)} (hg:∀ s∈gs,Gd N s) (hc:ak N (Gr N (·∈gs)) O R) (ft:∀ x∈gens,Gd N x) {g:List Nat} (gg:Gd N g):w_ ((N:Nat):Int) (O.map Ma.af) (R.map (List.map Ma.af)) gens g=true↔∀ x∈gens,Gr N (·∈gs) (dz x g):=by
 unfold w_;rw [List.all_eq_true];have hj:∀ x∈gens,Gd N (dz x g):=fun x hx=>Cm.aT (Cm.aT (Cm.aH gg) (ft x hx)) gg;exact ⟨fun h x hx=>(kx h1 h2 hg hc (hj x hx)).1 (h x hx),fun h x hx=>(kx h1 h2 hg hc (hj x hx)).2 (h x hx)⟩
end
section
open Go.RowKit
open Go.Proofs.Ob
open Go.Proofs.Cm (Gr Gd ak cj St Fx ap my lexLt)
attribute [local irreducible] Go.Calls Go.wpList
theorem Rm {n:Nat} {z:List Nat} (gz:Gd n z):∀ k,k<=n->Fx k z∨∃ j,j<k/\(∀ m,m<j->ap z m=m)/\ap z j≠j
 | 0,_=>.inl fun j hj=>absurd hj (Nat.not_lt_zero _)
 | k+1,hk=>by
  rcases Rm gz k (by omega) with h | ⟨j,h1,h2⟩
  ·by_cases e:ap z k=k
   ·exact .inl fun j hj=>by
     by_cases e2:j=k
     ·subst e2; exact e
     ·exact h j (by omega)
   ·exact .inr ⟨k,by omega,h,e⟩
  ·exact .inr ⟨j,by omega,h2⟩
theorem Hk {z:List Nat} (gz:Gd n z):z=Ma.bh n∨lexLt n (Ma.bh n) z:=by
 rcases Rm gz n (Nat.le_refl _) with h | ⟨j,h1,h2,h3⟩
 ·exact .inl (Fx.all gz h)
 ·refine .inr ⟨j,h1,fun m hm=>by rw [Cm.cD (by omega),h2 m hm],?_⟩
  rw [Cm.cD h1];have h4:¬ ap z j<j:=fun h=>h3 (Cm.iu gz (Cm.bI gz h1) h1 (h2 _ h));omega
theorem JZ (hH:cj n H) (h:ak n H O R) {i:Nat} (hi:i<n):∃ t,R.getD i []=Ma.bh n :: t:=by
 have s1:St H i (Ma.bh n):=⟨hH.one,Fx.one (Nat.le_of_lt hi)⟩;have hm:i∈O.getD i []:=(h.orb i i hi).2 ⟨_,s1,Cm.cD hi⟩;have hp:=List.length_pos_of_mem hm
 have h0:(O.getD i [])[0]=i:=by
  obtain ⟨x,hx,e⟩:=(h.orb i _ hi).1 (List.getElem_mem hp);have gx:=hH.gd _ hx.1;obtain ⟨k,hk,ek⟩:=List.getElem_of_mem hm
  rcases Nat.eq_zero_or_pos k with rfl | tF
  ·exact ek
  ·have aB:=(List.pairwise_iff_getElem.1 (h.jk i hi)) 0 k hp hk tF
   rw [ek] at aB;have h3:=hx.2 _ aB;have:=Cm.iu gx (by omega) hi (h3.trans e.symm);omega
 have hr:=h.rep i 0 hi hp;rw [show (O.getD i []).getD 0 0=i by rw [Cm.getD_in hp]; exact h0] at hr;have ho:my n (fun z=>St H i z/\ap z i=i) (Ma.bh n):=⟨⟨s1,Cm.cD hi⟩,fun z hz=>(Hk (hH.gd _ hz.1.1)).imp id id⟩;have e:=hr.uniq ho
 have hl:0<(R.getD i []).length:=by rw [h.len i hi]; exact hp
 cases hR:R.getD i [] with
 | nil=>rw [hR] at hl; cases hl
 | cons a t =>
  rw [hR] at e;exact ⟨t,by rw [show a=Ma.bh n from e]⟩
def sT (R:List (List (List Nat))):List (List Nat):=R.flatMap (List.drop 1)
theorem xM (hH:cj n H) (h:ak n H O R):∀ s∈sT R,Gd n s:=fun s hs=>by
 obtain ⟨r,hr,hs⟩:=List.mem_flatMap.1 hs;exact hH.gd s (nQ h (List.mem_flatten.2 ⟨r,hr,List.mem_of_mem_drop hs⟩))
theorem Hm (hH:cj n H) (h:ak n H O R):H=Gr n (·∈sT R):=by
 funext x
 refine propext ⟨fun hx=>?_,fun hx=>Gr.sub hH (fun s hs=>?_) hx⟩
 ·have h1:=(yN hH h x).1 hx
  refine Gr.sub (Gr.bV (xM hH h)) (fun s hs=>?_) h1;obtain ⟨r,hr,hs⟩:=List.mem_flatten.1 hs;obtain ⟨i,hi,rfl⟩:=List.getElem_of_mem hr;obtain ⟨t,ht⟩:=JZ hH h (i:=i) (by rw [h.iK] at hi; exact hi);rw [Cm.getD_in hi] at ht;rw [ht] at hs
  rcases List.mem_cons.1 hs with rfl | hs
  ·exact .one
  ·exact .gen _ (List.mem_flatMap.2 ⟨R[i],List.getElem_mem hi,by rw [ht]; exact hs⟩)
 ·obtain ⟨r,hr,hs⟩:=List.mem_flatMap.1 hs
  exact nQ h (List.mem_flatten.2 ⟨r,hr,List.mem_of_mem_drop hs⟩)
theorem Rn (R:List (List (List Nat))):(R.map (List.map Ma.af)).flatMap (List.drop 1)=(sT R).map Ma.af:=by
 unfold sT;rw [List.flatMap_map,List.map_flatMap]
 congr 1
 funext r
 rw [List.map_drop]
end
section
open Go.RowKit
open Go.Proofs.Ob
open Go.Proofs.Cm (Gd Gr ak ap lexLt cj St)
attribute [local irreducible] Go.Calls Go.wpList
theorem zM:∀ {b a:List (List Int)},(∀ l∈b,0<l.length)->eL a<=eL (a++b)
 | [],a,_=>by simp
 | l :: b,a,h=>by
  have h1:=zM (b:=b) (a:=a++[l]) fun x hx=>h x (List.mem_cons_of_mem _ hx);have h2:=h l (List.mem_cons_self ..);rw [qt,List.append_assoc,List.singleton_append] at h1;exact Nat.le_trans (Nat.le_mul_of_pos_right _ h2) h1
theorem Ho {a:List (List Int)} (h:∀ l∈a,0<l.length) (i:Nat):eL (a.take i)<=eL a:=by
 have:=zM (b:=a.drop i) (a:=a.take i) fun l hl=>h l (List.mem_of_mem_drop hl)
 rwa [List.take_append_drop] at this
theorem J0 (hH:cj N H) (h:ak N H O R):∀ l∈O.map Ma.af,0<l.length:=fun l hl=>by
 obtain ⟨o,ho,rfl⟩:=List.mem_map.1 hl;obtain ⟨i,hi,rfl⟩:=List.getElem_of_mem ho
 have s6:i<N:=by rw [h.jH] at hi; exact hi
 have h1:1<=(O.getD i []).length:=List.length_pos_of_mem ((h.orb i i s6).2 ⟨Ma.bh N,⟨hH.one,Cm.Fx.one (by omega)⟩,Cm.cD s6⟩);rw [Cm.getD_in hi] at h1;have Yz:0<O[i].length:=h1
 simpa [Ma.af] using Yz
theorem xN {n:Int} {CS:List gS} {SS TS:List (List Int)} {c0:gS} (h1:ks CS=0) (h2:Ma.dT PS=0) (h3:∀ c∈CS,c.1=n) (h4:∀ x∈PS,(x.length:Int)=n) (h5:jC n SS=0) (h6:ku n TS=0) (h7:uz c0=0):gL n CS PS SS TS c0=0:=by
 unfold gL;rw [if_neg (by simp [h1]),if_neg (by simp [h2]),if_neg,if_neg (by simp [h5]),if_neg (by simp [h6]),h7]
 rintro (h | h)
 ·obtain ⟨c,hc,h⟩:=List.any_eq_true.1 h
  exact of_decide_eq_true h (h3 c hc)
 ·obtain ⟨c,hc,h⟩:=List.any_eq_true.1 h
  exact of_decide_eq_true h (h4 c hc)
theorem Ro {n:Int} {s:List Int} (h:s.any (i_ n)=false) (h2:pz s):jC n [s]=0:=by
 have:j2 n s=0:=by
  unfold j2;rw [if_neg (by simp [h]),if_pos h2]
 rw [jC,if_pos this,jC]
theorem Lm (h:(gQ N O R).length<=5040):uz (((N:Nat):Int),O.map Ma.af,R.map (List.map Ma.af))=0:=by
 rw [Q_];unfold gQ at h;rw [List.length_map,List.length_range] at h;exact if_pos h
theorem uG:∀ s∈([[1,2,3,0],[1,0,2,3]]:List (List Nat)),Gd 4 s:=fun s hs=>o_ ((by decide +kernel:∀ s∈([[1,2,3,0],[1,0,2,3]]:List (List Nat)),Ma.bB (Ma.af s)=0/\s.length=4) s hs)
theorem xO:∀ s∈([[0,1,3,2]]:List (List Nat)),Gd 4 s:=fun s hs=>o_ ((by decide +kernel:∀ s∈([[0,1,3,2]]:List (List Nat)),Ma.bB (Ma.af s)=0/\s.length=4) s hs)
def Rq:List (List Nat):=[[0,1,2,3],[0,1,3,2],[1,0,2,3],[1,0,3,2]]
theorem Ua:gN 4 [[0,1,3,2],[1,0,2,3]] Rq:=sS (W:=[[],[0],[1],[0,1]]) (by decide +kernel) (by decide +kernel) (by decide +kernel) (by decide +kernel) ((jN _).2 (by decide +kernel))
theorem Ub:∀ s∈([[0,1,3,2],[1,0,2,3]]:List (List Nat)),Gd 4 s:=fun s hs=>o_ ((by decide +kernel:∀ s∈([[0,1,3,2],[1,0,2,3]]:List (List Nat)),Ma.bB (Ma.af s)=0/\s.length=4) s hs)
section
variable {O:List (List Nat)} {R:List (List (List Nat))} (hc:ak 4 (Gr 4 (·∈([[0,1,3,2]]:List (List Nat)))) O R)
include hc
theorem Uc:sT R=[[0,1,3,2]]:=by
 have h:=DR xO DZ;rw [(hc.uniq h).2]
 decide +kernel
theorem Ud {g:List Nat} (gg:Gd 4 g):w_ ((4:Nat):Int) (O.map Ma.af) (R.map (List.map Ma.af)) (sT R) g=Rl.contains (dz [0,1,3,2] g):=by
 rw [Bool.eq_iff_iff,Ll (by decide) (by decide) xO hc (xM (Gr.bV xO) hc) gg,Uc hc];exact ⟨fun h=>List.contains_iff_mem.2 ((DZ.2 _).2 (h _ (List.mem_singleton.2 rfl))),fun h x hx=>by rw [List.mem_singleton.1 hx]; exact (DZ.2 _).1 (List.contains_iff_mem.1 h)⟩
theorem Rs:ny.filter (w_ ((4:Nat):Int) (O.map Ma.af) (R.map (List.map Ma.af)) (sT R))=Rq:=by
 rw [List.filter_congr (fun g hg=>Ud hc ((Gr.bV uG).gd g ((uF.2 g).1 hg)))]
 decide +kernel
theorem Rt:cj 4 (fun z=>Gr 4 (·∈([[1,2,3,0],[1,0,2,3]]:List (List Nat))) z/\w_ ((4:Nat):Int) (O.map Ma.af) (R.map (List.map Ma.af)) (sT R) z=true):=by
 have e:(fun z=>Gr 4 (·∈([[1,2,3,0],[1,0,2,3]]:List (List Nat))) z/\w_ ((4:Nat):Int) (O.map Ma.af) (R.map (List.map Ma.af)) (sT R) z=true)=Gr 4 (·∈([[0,1,3,2],[1,0,2,3]]:List (List Nat))):=by
  funext z
  refine propext ?_;rw [<- Ua.2,<- Rs hc,List.mem_filter,uF.2]
 rw [e];exact Gr.bV Ub
end
section
variable {O:List (List Nat)} {R:List (List (List Nat))} (hc:ak 4 (Gr 4 (·∈([[1,2,3,0],[1,0,2,3]]:List (List Nat)))) O R)
include hc
theorem Ru:uz (((4:Nat):Int),O.map Ma.af,R.map (List.map Ma.af))=0:=Lm (by rw [B9 hc]; decide)
theorem Ln (h:AY (((4:Nat):Int),O.map Ma.af,R.map (List.map Ma.af)) N O' R'):N=4/\gQ N O' R'=ny:=by
 obtain ⟨e1,_,_,e2,e3,_⟩:=h
 have Rv:N=4:=by simp only at e1; omega
 subst Rv;have My:=dh e2;subst My
 have Rw:R=R':=by
  have:=e3;simp only at this
  exact List.map_inj_right (fun a b gi=>dh gi) |>.1 this
 subst Rw;exact ⟨rfl,B9 hc⟩
theorem iM.Hq {Pb:List Nat->Bool} {e:Ending} (h:iM ck (((4:Nat):Int),O.map Ma.af,R.map (List.map Ma.af)) Pb w e w') (h0:ck=0) (hG:cj 4 (fun z=>Gr 4 (·∈([[1,2,3,0],[1,0,2,3]]:List (List Nat))) z/\Pb z=true)) {m:Nat} (hm:(ny.filter Pb).length=m) (jF:m<=1000) :
  ∃ oa on oc ra rn rc OO RR,e=.returned (.tuple #[.agg #[.int .i64 ((4:Nat):Int),.slice oa on oc,.slice ra rn rc],.int .i64 0])/\(aW w' (.slice oa on oc) (.slice ra rn rc) OO RR/\eL OO=m/\(∀ i,eL (OO.take i)<=1000000)/\OO.length<=100)/\Below w.heap.size w w':=by
 obtain ⟨hb,⟨h1,_⟩ | ⟨_,N,O',R',hN,gs,oa,on,oc,ra,rn,rc,O2,R2,rfl,g1,g2,g3,g4,g5⟩⟩:=h
 ·exact absurd h0 h1
 ·obtain ⟨rfl,hu⟩:=Ln hc hN
  rw [hu] at g4 g5;have hl:=Rh uF hG g4 g5 g3;have ft:=(Hi uF hG g4 g5).1;refine ⟨oa,on,oc,ra,rn,rc,_,_,rfl,⟨⟨aG.rows g1,bg.rows g2⟩,hl.trans hm,fun i=>?_,?_⟩,hb⟩
  ·have:=Ho (J0 (Gr.bV ft) g3) i
   rw [hl,hm] at this;omega
  ·rw [List.length_map,g3.jH]; decide
end

theorem AY.uniq {c:gS} {N':Nat} (h:AY c N O R) (h':AY c N' O' R'):N=N'/\O=O'/\R=R':=by
 have en:N=N':=by have h5:=h.1; have h6:=h'.1; omega
 subst en;have eo:O=O':=dh (h.2.2.2.1.symm.trans h'.2.2.2.1);subst eo;refine ⟨rfl,rfl,?_⟩;have:=congrArg (List.map (List.map nW)) (h.2.2.2.2.1.symm.trans h'.2.2.2.2.1)
 rwa [iD,iD] at this

theorem Rx (args:Array Value) (w:World):(callFunc 71 args).run Tryz.prog w=.ok (.enter 71 args) w:=by kernel_rfl
theorem zN (X:World) (n:Int) (a:Option Addr) (m c:Nat) (a':Option Addr) (m' c':Nat) (q:Int) (d:Option Addr) (e f:Nat) (d':Option Addr) (e' f':Nat):(Instr.buildSlice 71 2 #[(0,.agg #[.int .i64 n,.slice a m c,.slice a' m' c']),(1,.agg #[.int .i64 q,.slice d e f,.slice d' e' f'])]).run Tryz.prog X=.ok (.slice (some ⟨X.heap.size,0,none⟩) 2 2) (X.alloc (.cells #[.int .i64 n,.slice a m c,.slice a' m' c',.int .i64 q,.slice d e f,.slice d' e' f'] 25)):=by
 obtain ⟨i0,hi,cT,bz,dW⟩:=info_parts gZ;refine run_buildSlice X 71 25 2 _ _ i0 _ Tryz.underlying71 hi cT (by rw [bz]; decide) (by rw [bz]; decide) ?_;generalize (fun x=>((Value.agg #[.int .i64 0,.slice none 0 0,.slice none 0 0]).cells)[x % (Value.agg #[.int .i64 0,.slice none 0 0,.slice none 0 0]).cells.size]!)=f;rw [bz];have h1:Array.range (2*3)=#[0,1,2,3,4,5]:=rfl;simp [Instr.fill,Value.cells,h1]
theorem n_.two {n:Int} {oa:Option Addr} {on oc:Nat} {ra:Option Addr} {rn rc:Nat} (h:aW w (.slice oa on oc) (.slice ra rn rc) OO RR) {m:Int} {pa:Option Addr} {pn pc:Nat} {qa:Option Addr} {qn qc:Nat} {O2:List (List Int)} {R2:List (List (List Int))} (h':aW w (.slice pa pn pc) (.slice qa qn qc) O2 R2):n_ w.heap.size [(n,OO,RR),(m,O2,R2)] (w.alloc (.cells #[.int .i64 n,.slice oa on oc,.slice ra rn rc,.int .i64 m,.slice pa pn pc,.slice qa qn qc] 25)) :=
 ⟨by simp,fun i hi=>by
  have hb:=(Below.refl w.heap.size w).alloc (Nat.le_refl _) (.cells #[.int .i64 n,.slice oa on oc,.slice ra rn rc,.int .i64 m,.slice pa pn pc,.slice qa qn qc] 25)
  match i,hi with
  | 0,_=>exact ⟨oa,on,oc,ra,rn,rc,by rw [Rg.aL]; rfl,by rw [Rg.aL]; rfl,by rw [Rg.aL]; rfl,h.jj hb⟩
  | 1,_=>exact ⟨pa,pn,pc,qa,qn,qc,by rw [Rg.aL]; rfl,by rw [Rg.aL]; rfl,by rw [Rg.aL]; rfl,h'.jj hb⟩⟩
theorem Lo {a:Option Addr} {c:Nat} (m:Int) {d:Option Addr} {e f:Nat} {d':Option Addr} {e' f':Nat} (w:World):(Instr.build 99 #[(0,.slice a n c),(1,.agg #[.int .i64 m,.slice d e f,.slice d' e' f'])]).run Tryz.prog w=.ok (.agg #[.slice a n c,.int .i64 m,.slice d e f,.slice d' e' f']) w:=by kernel_rfl
noncomputable def J1 (m:Int) (OO:List (List Int)) (RR:List (List (List Int))):List Nat->Bool:=w_ m OO RR ((nY m OO RR).map nW)
theorem xP (h:bn ((N:Nat):Int) (O.map Ma.af) (R.map (List.map Ma.af))=0):nY ((N:Nat):Int) (O.map Ma.af) (R.map (List.map Ma.af))=(sT R).map Ma.af:=by unfold nY; rw [if_pos h,Rn]
theorem Ry {n m:Int} {O2:List (List Int)} {R2:List (List (List Int))} {c0:gS} (h:gL n [(n,OO,RR),(m,O2,R2)] [] [] [] c0=0) {lv:Value} (hl:Rg.aG Fk W lv (nY m O2 R2)) (ho:Rg.aG Fk W ov O2) (hr:bg Fk W rv R2) :
  lL n.toNat (.iface 99 (.agg #[lv,.int .i64 m,ov,rv])) (J1 m O2 R2) Fk (XT Fk lv ov rv ((nY m O2 R2).map nW) O2 R2) W:=by
 obtain ⟨h1,_,h3,_⟩:=iG h;have hc:=oh h1 (m,O2,R2) (by simp);have hm:m=n:=Classical.byContradiction fun e=>h3 (.inl (List.any_eq_true.2 ⟨(m,O2,R2),by simp,decide_eq_true e⟩));subst hm;have sw:=hc;obtain ⟨N,O,R,en,g1,g2,e2,e3,cQ,ft⟩:=fa sw;simp only at en e2 e3 hc;subst en e2 e3;have e:=xP hc;have hg:=xM (Gr.bV ft) cQ;unfold J1;rw [e,kO];rw [e] at hl;rw [Int.toNat_natCast];exact XV g1 g2 hg ⟨hl,ho,hr⟩
theorem pC {n m:Int} {O2:List (List Int)} {R2:List (List (List Int))} {pv qv:Value} (h:aW w ov rv OO RR) (h':aW w pv qv O2 R2) (hn:n<=12) :
  Calls Tryz.prog 43 #[.agg #[.int .i64 n,ov,rv],.agg #[.int .i64 m,pv,qv]] w (iM (gL n [(n,OO,RR),(m,O2,R2)] [] [] [] (n,OO,RR)) (n,OO,RR) (J1 m O2 R2) w):=by
 obtain ⟨oa,oc,rfl,-⟩:=h.1.shape;obtain ⟨ra,rc,rfl⟩:=h.2.shape;obtain ⟨pa,pc,rfl,-⟩:=h'.1.shape;obtain ⟨qa,qc,rfl⟩:=h'.2.shape;obtain ⟨on,iz⟩:∃ n,Hid (OO.length=n):=⟨_,U rfl⟩;obtain ⟨rn,iV⟩:∃ n,Hid (RR.length=n):=⟨_,U rfl⟩;obtain ⟨pn,re⟩:∃ n,Hid (O2.length=n):=⟨_,U rfl⟩;obtain ⟨qn,vu⟩:∃ n,Hid (R2.length=n):=⟨_,U rfl⟩;rw [iz.p,iV.p] at h;rw [re.p,vu.p] at h';rw [iz.p,iV.p,re.p,vu.p];have CE:=U h;have CF:=U h';clear h h';have K:=U (Below.refl w.heap.size w)
 go_enter Tryz.func43,Tryz.ntmps43
 go_upto_region 0 with (fail);refine c6 ?_;have aF:=eY w (.int .i64 n) (.slice oa on oc) (.slice ra rn rc);refine d4 2 (Rg.aY _ _ rfl rfl) ?_;go_frame;have hb:=(Below.refl w.heap.size w).alloc (Nat.le_refl _) (.cells #[.int .i64 n,.slice oa on oc,.slice ra rn rc] 25);generalize w.alloc (.cells #[.int .i64 n,.slice oa on oc,.slice ra rn rc] 25)=w1 at *;replace CE:=U (CE.p.jj hb);replace CF:=U (CF.p.jj hb);replace K:=U (Rg.acc K.p hb);clear hb;have A0:=U aF.1;have A1:=U aF.2.1;have A2:=U aF.2.2;clear aF;have aF:=eY w1 (.int .i64 m) (.slice pa pn pc) (.slice qa qn qc);refine d4 3 (Rg.aY _ _ rfl rfl) ?_;go_frame;have hb:=(Below.refl w1.heap.size w1).alloc (Nat.le_refl _) (.cells #[.int .i64 m,.slice pa pn pc,.slice qa qn qc] 25);generalize w1.alloc (.cells #[.int .i64 m,.slice pa pn pc,.slice qa qn qc] 25)=w2 at *;replace CE:=U (CE.p.jj hb)
 replace CF:=U (CF.p.jj hb);replace A0:=U (A0.p.jj hb);replace A1:=U (A1.p.jj hb);replace A2:=U (A2.p.jj hb);replace K:=U (Rg.acc K.p hb);clear hb;have B0:=U aF.1;have B1:=U aF.2.1;have B2:=U aF.2.2;clear aF;have mQ:=U K.p.size;have bX:=bM.new w2 (.int .i64 0) (.slice none 0 0) (.slice none 0 0);refine d4 4 (aU rfl) ?_;go_frame;have hb:=(Below.refl w2.heap.size w2).alloc (Nat.le_refl _) (.cells #[.int .i64 0,.slice none 0 0,.slice none 0 0] 25);generalize w2.alloc (.cells #[.int .i64 0,.slice none 0 0,.slice none 0 0] 25)=w3 at *;replace CE:=U (CE.p.jj hb);replace CF:=U (CF.p.jj hb);replace A0:=U (A0.p.jj hb);replace A1:=U (A1.p.jj hb);replace A2:=U (A2.p.jj hb);replace B0:=U (B0.p.jj hb);replace B1:=U (B1.p.jj hb);replace B2:=U (B2.p.jj hb);replace K:=U (Rg.acc K.p hb)
 clear hb;have C4:=U bX;clear bX;refine d6 5 (.int .i64 ((0:Nat):Int)) ?_;go_frame;go_upto_region 1 with (fail);have aw:Below w3.heap.size w3 w3.drew:=(Below.refl _ _).drew;replace CE:=U (CE.p.jj aw);replace CF:=U (CF.p.jj aw);replace A0:=U (A0.p.jj aw);replace A1:=U (A1.p.jj aw);replace A2:=U (A2.p.jj aw);replace B0:=U (B0.p.jj aw);replace B1:=U (B1.p.jj aw);replace B2:=U (B2.p.jj aw);replace C4:=U (C4.p.jj aw);replace K:=U (Rg.acc K.p aw);clear aw;refine Rg.Any.begin (S:=Rg.aI 12 (fun W=>Below w3.drew.heap.size w3.drew W) (fun W=>Below w.heap.size w W)) mix ?_;generalize w3.drew=w4 at *;have hS:∀ (l:Array Bool) W,Below w4.heap.size w4 W->Below w.heap.size w W->Rg.aI 12 (fun W=>Below w4.heap.size w4 W) (fun W=>Below w.heap.size w W) l W:=fun l W h h2=>⟨.inr h,h2⟩;have bT:∀ (l:Array Bool) W,l.getD 12 false=true->Below w.heap.size w W->Rg.aI 12 (fun W=>Below w4.heap.size w4 W) (fun W=>Below w.heap.size w W) l W:=fun l W h h2=>⟨.inl h,h2⟩
 have hI:=K.p;refine i8 0 12 ((.agg #[.int .i64 n,.slice oa on oc,.slice ra rn rc])) 6 rfl rfl (j0 ⟨w.heap.size,0,none⟩ (fun W hW=>aq ((Below.cell (p:=⟨w.heap.size,0,none⟩) hW A0.p.lt).trans A0.p.cell) ((Below.cell (p:=⟨w.heap.size,1,none⟩) hW A1.p.lt).trans A1.p.cell) ((Below.cell (p:=⟨w.heap.size,2,none⟩) hW A2.p.lt).trans A2.p.cell))) (hS _ _ (Below.refl _ _) hI) ?_;go_frame;refine i8 1 12 ((.agg #[.int .i64 m,.slice pa pn pc,.slice qa qn qc])) 7 rfl rfl (j0 ⟨w1.heap.size,0,none⟩ (fun W hW=>aq ((Below.cell (p:=⟨w1.heap.size,0,none⟩) hW B0.p.lt).trans B0.p.cell) ((Below.cell (p:=⟨w1.heap.size,1,none⟩) hW B1.p.lt).trans B1.p.cell) ((Below.cell (p:=⟨w1.heap.size,2,none⟩) hW B2.p.lt).trans B2.p.cell))) (hS _ _ (Below.refl _ _) hI) ?_;go_frame;refine i8 4 12 ((.agg #[.int .i64 m,.slice pa pn pc,.slice qa qn qc])) 10 rfl rfl (j0 ⟨w1.heap.size,0,none⟩ (fun W hW=>aq ((Below.cell (p:=⟨w1.heap.size,0,none⟩) hW B0.p.lt).trans B0.p.cell) ((Below.cell (p:=⟨w1.heap.size,1,none⟩) hW B1.p.lt).trans B1.p.cell) ((Below.cell (p:=⟨w1.heap.size,2,none⟩) hW B2.p.lt).trans B2.p.cell))) (hS _ _ (Below.refl _ _) hI) ?_;go_frame
 refine i8 6 12 ((.agg #[.int .i64 m,.slice pa pn pc,.slice qa qn qc])) 12 rfl rfl (j0 ⟨w1.heap.size,0,none⟩ (fun W hW=>aq ((Below.cell (p:=⟨w1.heap.size,0,none⟩) hW B0.p.lt).trans B0.p.cell) ((Below.cell (p:=⟨w1.heap.size,1,none⟩) hW B1.p.lt).trans B1.p.cell) ((Below.cell (p:=⟨w1.heap.size,2,none⟩) hW B2.p.lt).trans B2.p.cell))) (hS _ _ (Below.refl _ _) hI) ?_;go_frame;refine Rg.Any.two (i:=2) (j:=5) (by kernel_rfl) ?_ ?_
 ·have jG:=n_.two (n:=n) (m:=m) CE.p CF.p
  have hb:=(Below.refl w4.heap.size w4).alloc (Nat.le_refl _) (.cells #[.int .i64 n,.slice oa on oc,.slice ra rn rc,.int .i64 m,.slice pa pn pc,.slice qa qn qc] 25);have aS:=Rg.acc hI hb;have eM:=hb;clear hb hI;refine Rg.Any.run (some 8) rfl rfl rfl (gI _ _ _ rfl rfl rfl (zN w4 ..)) (hS _ _ eM aS) ?_;go_frame;generalize w4.alloc (.cells #[.int .i64 n,.slice oa on oc,.slice ra rn rc,.int .i64 m,.slice pa pn pc,.slice qa qn qc] 25)=w5 at *;have CS:=U jG;refine d7 3 12 ((.agg #[.slice (some ⟨w4.heap.size,0,none⟩) 2 2,.slice none 0 0,.slice none 0 0,.slice none 0 0])) 9 rfl rfl (.inl ⟨rfl,fun w _=>wj _ rfl rfl⟩) (hS _ _ eM aS) ?_;go_frame;refine Rg.Any.one (i:=5) (by kernel_rfl) (Rg.Any.ask (some 11) rfl rfl rfl _ _ (aE 71 _ _ rfl rfl (Rx _ _)) ?_);refine ((rQ (n:=m) (CF.p.jj eM))).mono ?_;rintro e1 w6 ⟨sv,rfl,nR,hb⟩
  have ur:=iR.mk nR;obtain ⟨sa,sc,rfl,-⟩:=nR.shape;obtain ⟨sn,mC⟩:∃ n,Hid ((nY m O2 R2).length=n):=⟨_,U rfl⟩;rw [mC.p] at ur ⊢;have bf:=Rg.acc eM hb;have bZ:=Rg.acc aS hb;have sU:=hb;clear hb eM aS;refine ⟨_,rfl,(hS _ _ bf bZ),?_⟩;go_frame;have SG:=U ur;refine d7 7 12 ((.agg #[.slice sa sn sc,.int .i64 m,.slice pa pn pc,.slice qa qn qc])) 13 rfl rfl (.inl ⟨rfl,fun w _=>ky _ _ rfl rfl rfl (Lo _ _)⟩) (hS _ _ bf bZ) ?_;go_frame;refine d7 8 12 ((.iface 99 (.agg #[.slice sa sn sc,.int .i64 m,.slice pa pn pc,.slice qa qn qc]))) 14 rfl rfl (.inl ⟨rfl,fun w _=>jz _ _ rfl rfl (Q4 _ _)⟩) (hS _ _ bf bZ) ?_;go_frame;have DT:=U (C4.p.jj bf).lt;have DU:=U bZ;refine Rg.Any.one (i:=9) (by kernel_rfl) (Rg.Any.ask (some 15) rfl rfl rfl _ _ (aj 52 _ _ _ rfl rfl rfl (zK _ _)) ?_)
  refine ((iM.calls (kT (CS:=[(n,OO,RR),(m,O2,R2)]) (cc:=2) (CS.p.jj sU) (by simp) (by simp) (cz _) (by simp) (cz _) (by simp) (by simp) (cz _) (by simp) (by simp) hn (Fk:=fun z=>z<w6.heap.size) (fun h0=>⟨Ry h0 (Rg.aG.nH SG.p.r) (Rg.aG.nH (CF.p.jj bf).1) (kQ (CF.p.jj bf).2),fun z hz=>hz⟩)))).mono ?_;rintro e1 w7 ⟨kU,kV,kW,kr,im,kX,gR,kz,rfl,lJ,hb⟩;have sR:=U lJ;clear lJ;have cq:=Rg.acc sU hb;have bx:=Rg.acc bf hb;have eK:=Rg.acc bZ hb;have J2:=hb;clear hb sU bf bZ;refine ⟨_,rfl,(hS _ _ bx eK),?_⟩;go_frame;refine d7 10 12 ((.agg #[.int .i64 kU,.slice kV kW kr,.slice im kX gR])) 16 rfl rfl (.inl ⟨rfl,fun w _=>aV (v:=.agg #[.int .i64 kU,.slice kV kW kr,.slice im kX gR]) _ _ rfl rfl rfl⟩) (hS _ _ bx eK) ?_;go_frame
  refine d7 11 12 (.int .i64 kz) 17 rfl rfl (.inl ⟨rfl,fun w _=>aV (v:=.int .i64 kz) _ _ rfl rfl rfl⟩) (hS _ _ bx eK) ?_;go_frame;have Rz:=U (C4.p.jj bx);have pd:=((eK.setCell (p:=⟨w2.heap.size,0,none⟩) mQ.p (.int .i64 kU)).setCell (p:=⟨w2.heap.size,1,none⟩) mQ.p (.slice kV kW kr)).setCell (p:=⟨w2.heap.size,2,none⟩) mQ.p (.slice im kX gR);refine Rg.Any.one (i:=12) (by kernel_rfl) (Rg.Any.cC none rfl rfl rfl (Rg.ai _ _ _ rfl _ rfl _ rfl (aM _ _ _ _ _ _ _ Rz.p)) (bT _ _ rfl pd) ?_);go_frame;have y4:=Rz.p.set (.int .i64 kU) (.slice kV kW kr) (.slice im kX gR);have hk:=eN w7 w2.heap.size (.int .i64 kU) (.slice kV kW kr) (.slice im kX gR);clear cq bx eK J2;clear CE;clear CF;clear A0;clear A1;clear A2;clear B0;clear B1;clear B2;clear C4;clear CS;clear SG
  refine d7 13 12 (.int .i64 kz) 5 rfl rfl (.inl ⟨rfl,fun w _=>Rg.bw (v:=.int .i64 kz) _ rfl rfl⟩) (bT _ _ rfl pd) ?_;go_frame;refine Rg.Any.done (by kernel_rfl) ?_ _;replace K:=U pd;clear bT;clear hS pd;go_wp2;exact bodyPost_ret (bA (p:=4) (u:=5) rfl _ rfl rfl y4) rfl (sR.p.kp DU.p hk mQ.p DT.p)
 ·refine Rg.Any.ask (some 11) rfl rfl rfl _ _ (aE 71 _ _ rfl rfl (Rx _ _)) ?_
  refine ((rQ (n:=m) CF.p)).mono ?_;rintro e1 w5 ⟨sv,rfl,nR,hb⟩;have ur:=iR.mk nR;obtain ⟨sa,sc,rfl,-⟩:=nR.shape;obtain ⟨sn,mC⟩:∃ n,Hid ((nY m O2 R2).length=n):=⟨_,U rfl⟩;rw [mC.p] at ur ⊢;have aS:=Rg.acc hI hb;have eM:=hb;clear hb hI;refine ⟨_,rfl,(hS _ _ eM aS),?_⟩;go_frame;have SG:=U ur;refine d7 7 12 ((.agg #[.slice sa sn sc,.int .i64 m,.slice pa pn pc,.slice qa qn qc])) 13 rfl rfl (.inl ⟨rfl,fun w _=>ky _ _ rfl rfl rfl (Lo _ _)⟩) (hS _ _ eM aS) ?_;go_frame;refine d7 8 12 ((.iface 99 (.agg #[.slice sa sn sc,.int .i64 m,.slice pa pn pc,.slice qa qn qc]))) 14 rfl rfl (.inl ⟨rfl,fun w _=>jz _ _ rfl rfl (Q4 _ _)⟩) (hS _ _ eM aS) ?_;go_frame;have jG:=n_.two (n:=n) (m:=m) (CE.p.jj eM) (CF.p.jj eM);have hb:=(Below.refl w5.heap.size w5).alloc (Nat.le_refl _) (.cells #[.int .i64 n,.slice oa on oc,.slice ra rn rc,.int .i64 m,.slice pa pn pc,.slice qa qn qc] 25)
  have bf:=Rg.acc eM hb;have bZ:=Rg.acc aS hb;have sU:=hb;clear hb eM aS;refine i9 2 8 rfl rfl (gI _ _ _ rfl rfl rfl (zN w5 ..)) (hS _ _ bf bZ) ?_;go_frame;generalize w5.alloc (.cells #[.int .i64 n,.slice oa on oc,.slice ra rn rc,.int .i64 m,.slice pa pn pc,.slice qa qn qc] 25)=w6 at *;have CS:=U jG;refine d7 3 12 ((.agg #[.slice (some ⟨w5.heap.size,0,none⟩) 2 2,.slice none 0 0,.slice none 0 0,.slice none 0 0])) 9 rfl rfl (.inl ⟨rfl,fun w _=>wj _ rfl rfl⟩) (hS _ _ bf bZ) ?_;go_frame;have DT:=U (C4.p.jj bf).lt;have DU:=U bZ;refine Rg.Any.one (i:=9) (by kernel_rfl) (Rg.Any.ask (some 15) rfl rfl rfl _ _ (aj 52 _ _ _ rfl rfl rfl (zK _ _)) ?_);refine ((iM.calls (kT (CS:=[(n,OO,RR),(m,O2,R2)]) (cc:=2) CS.p (by simp) (by simp) (cz _) (by simp) (cz _) (by simp) (by simp) (cz _) (by simp) (by simp) hn (Fk:=fun z=>z<w6.heap.size) (fun h0=>⟨Ry h0 (Rg.aG.nH (SG.p.jj sU).r) (Rg.aG.nH (CF.p.jj bf).1) (kQ (CF.p.jj bf).2),fun z hz=>hz⟩)))).mono ?_
  rintro e1 w7 ⟨kU,kV,kW,kr,im,kX,gR,kz,rfl,lJ,hb⟩;have sR:=U lJ;clear lJ;have cq:=Rg.acc sU hb;have bx:=Rg.acc bf hb;have eK:=Rg.acc bZ hb;have J2:=hb;clear hb sU bf bZ;refine ⟨_,rfl,(hS _ _ bx eK),?_⟩;go_frame;refine d7 10 12 ((.agg #[.int .i64 kU,.slice kV kW kr,.slice im kX gR])) 16 rfl rfl (.inl ⟨rfl,fun w _=>aV (v:=.agg #[.int .i64 kU,.slice kV kW kr,.slice im kX gR]) _ _ rfl rfl rfl⟩) (hS _ _ bx eK) ?_;go_frame;refine d7 11 12 (.int .i64 kz) 17 rfl rfl (.inl ⟨rfl,fun w _=>aV (v:=.int .i64 kz) _ _ rfl rfl rfl⟩) (hS _ _ bx eK) ?_;go_frame;have Rz:=U (C4.p.jj bx);have pd:=((eK.setCell (p:=⟨w2.heap.size,0,none⟩) mQ.p (.int .i64 kU)).setCell (p:=⟨w2.heap.size,1,none⟩) mQ.p (.slice kV kW kr)).setCell (p:=⟨w2.heap.size,2,none⟩) mQ.p (.slice im kX gR)
  refine Rg.Any.one (i:=12) (by kernel_rfl) (Rg.Any.cC none rfl rfl rfl (Rg.ai _ _ _ rfl _ rfl _ rfl (aM _ _ _ _ _ _ _ Rz.p)) (bT _ _ rfl pd) ?_);go_frame;have y4:=Rz.p.set (.int .i64 kU) (.slice kV kW kr) (.slice im kX gR);have hk:=eN w7 w2.heap.size (.int .i64 kU) (.slice kV kW kr) (.slice im kX gR);clear cq bx eK J2;clear CE;clear CF;clear A0;clear A1;clear A2;clear B0;clear B1;clear B2;clear C4;clear SG;clear CS;refine d7 13 12 (.int .i64 kz) 5 rfl rfl (.inl ⟨rfl,fun w _=>Rg.bw (v:=.int .i64 kz) _ rfl rfl⟩) (bT _ _ rfl pd) ?_;go_frame;refine Rg.Any.done (by kernel_rfl) ?_ _;replace K:=U pd;clear bT;clear hS pd;go_wp2;exact bodyPost_ret (bA (p:=4) (u:=5) rfl _ rfl rfl y4) rfl (sR.p.kp DU.p hk mQ.p DT.p)

def J3 (m:Nat) (ov rv:Value) (W:World):Prop:=∃ OO RR,aW W ov rv OO RR/\eL OO=m/\(∀ i,eL (OO.take i)<=1000000)/\OO.length<=100
theorem J3.jj {m:Nat} {ov rv:Value} {W W':World} (h:J3 m ov rv W) (hb:Below W.heap.size W W'):J3 m ov rv W':=by
 obtain ⟨OO,RR,h1,h2⟩:=h;exact ⟨OO,RR,h1.jj hb,h2⟩
theorem sV {m:Nat} {n:Int} (h:J3 m ov rv w) :
  Calls Tryz.prog 30 #[.agg #[.int .i64 n,ov,rv],.int .i64 0] w fun e w'=>e=.returned (.int .i64 ((m:Nat):Int))/\Below w.heap.size w w':=by
 obtain ⟨OO,RR,h1,h2,h3,h4⟩:=h;subst h2;exact Hh h1 h3 h4
section
variable {O:List (List Nat)} {R:List (List (List Nat))} (hc:ak 4 (Gr 4 (·∈([[1,2,3,0],[1,0,2,3]]:List (List Nat)))) O R)
include hc
theorem RA {SS TS:List (List Int)} (h2:Ma.dT PS=0) (h4:∀ x∈PS,(x.length:Int)=((4:Nat):Int)) (h5:jC ((4:Nat):Int) SS=0) (h6:ku ((4:Nat):Int) TS=0):gL ((4:Nat):Int) [(((4:Nat):Int),O.map Ma.af,R.map (List.map Ma.af))] PS SS TS (((4:Nat):Int),O.map Ma.af,R.map (List.map Ma.af))=0 :=
 xN (by rw [ks,if_pos (jQ.ou (by decide) (by decide) uG hc)]; rfl) h2 (by simp) h4 h5 h6 (Ru hc)
theorem iL.Hq {Pb:List Nat->Bool} {e:Ending} (h:iL ck (((4:Nat):Int),O.map Ma.af,R.map (List.map Ma.af)) Pb w e w') (h0:ck=0) {k0:Nat} (hk:ny.findIdx Pb=k0) (cU:k0<24) :
  ∃ a m c,e=.returned (.tuple #[.slice a m c,.int .i64 0])/\Rg.Ints w' (.slice a m c) (Ma.af (ny.getD k0 []))/\Below w.heap.size w w':=by
 obtain ⟨hb,⟨h1,_⟩ | ⟨_,N,O',R',hN,hf⟩⟩:=h
 ·exact absurd h0 h1
 ·obtain ⟨rfl,hu⟩:=Ln hc hN
  rw [hu] at hf;obtain ⟨x,rfl,hx⟩:=hf.at hk cU;obtain ⟨m,a,c,_,rfl,_⟩:=hx.len;exact ⟨a,m,c,rfl,hx,hb⟩
theorem J4 (h:aW w ov rv (O.map Ma.af) (R.map (List.map Ma.af))) (hx:Rg.Ints w xv [1,0,2,3]) (hy:Rg.Ints w yv [0,1,3,2]) :
  Calls Tryz.prog 18 #[.agg #[.int .i64 ((4:Nat):Int),ov,rv],xv,yv] w fun e w'=>∃ a m c,e=.returned (.tuple #[.slice a m c,.int .i64 0])/\Rg.Ints w' (.slice a m c) [2,3,0,1]/\Below w.heap.size w w' :=
 (pB h (by decide) hx hy).mono fun _ _ hr=>hr.Hq hc (RA hc (by decide) (by decide) rfl rfl) XS (by decide)
theorem J5 (h:aW w ov rv (O.map Ma.af) (R.map (List.map Ma.af))) (hx:Rg.Ints w xv [1,0,2,3]) :
  Calls Tryz.prog 11 #[.agg #[.int .i64 ((4:Nat):Int),ov,rv],xv] w fun e w'=>∃ oa on oc ra rn rc,e=.returned (.tuple #[.agg #[.int .i64 ((4:Nat):Int),.slice oa on oc,.slice ra rn rc],.int .i64 0])/\J3 4 (.slice oa on oc) (.slice ra rn rc) w'/\Below w.heap.size w w' :=
 (wm h (by decide) hx).mono fun _ _ hr=>by
  obtain ⟨oa,on,oc,ra,rn,rc,OO,RR,h1,h2,h3⟩:=hr.Hq hc (RA hc (by decide) (by decide) rfl rfl) (T8 (x:=[1,0,2,3]) (Gr.bV uG) (o_ (by decide +kernel))) XQ (by decide);exact ⟨oa,on,oc,ra,rn,rc,h1,⟨OO,RR,h2⟩,h3⟩
theorem J6 (h:aW w ov rv (O.map Ma.af) (R.map (List.map Ma.af))) (hx:Rg.Ints w xv [0,1]) :
  Calls Tryz.prog 14 #[.agg #[.int .i64 ((4:Nat):Int),ov,rv],xv] w fun e w'=>∃ oa on oc ra rn rc,e=.returned (.tuple #[.agg #[.int .i64 ((4:Nat):Int),.slice oa on oc,.slice ra rn rc],.int .i64 0])/\J3 4 (.slice oa on oc) (.slice ra rn rc) w'/\Below w.heap.size w w' :=
 (DV h (by decide) hx (by decide)).mono fun _ _ hr=>by
  have ha:pz (Ma.af [0,1]):=fun j hj h1=>by
   have:j=1:=by simp [Ma.af] at hj; omega
   subst this;show (0:Int)<1
   decide
  obtain ⟨oa,on,oc,ra,rn,rc,OO,RR,h1,h2,h3⟩:=hr.Hq hc (RA hc (by decide) (by decide) (Ro (by decide) ha) rfl) (T_ (s:=[0,1]) (Gr.bV uG) ha (by decide)) XR (by decide);exact ⟨oa,on,oc,ra,rn,rc,h1,⟨OO,RR,h2⟩,h3⟩
theorem J7 {O2:List (List Nat)} {R2:List (List (List Nat))} (d_:ak 4 (Gr 4 (·∈([[0,1,3,2]]:List (List Nat)))) O2 R2) {pv qv:Value} (h:aW w ov rv (O.map Ma.af) (R.map (List.map Ma.af))) (h':aW w pv qv (O2.map Ma.af) (R2.map (List.map Ma.af))) :
  Calls Tryz.prog 43 #[.agg #[.int .i64 ((4:Nat):Int),ov,rv],.agg #[.int .i64 ((4:Nat):Int),pv,qv]] w fun e w'=>∃ oa on oc ra rn rc,e=.returned (.tuple #[.agg #[.int .i64 ((4:Nat):Int),.slice oa on oc,.slice ra rn rc],.int .i64 0])/\J3 4 (.slice oa on oc) (.slice ra rn rc) w'/\Below w.heap.size w w' :=
 (pC h h' (by decide)).mono fun _ _ hr=>by
  have g2:=jQ.ou (N:=4) (by decide) (by decide) xO d_
  have dY:gL ((4:Nat):Int) [(((4:Nat):Int),O.map Ma.af,R.map (List.map Ma.af)),(((4:Nat):Int),O2.map Ma.af,R2.map (List.map Ma.af))] [] [] [] (((4:Nat):Int),O.map Ma.af,R.map (List.map Ma.af))=0 :=
   xN (by rw [ks,if_pos (jQ.ou (by decide) (by decide) uG hc),ks,if_pos g2]; rfl) rfl (by simp) (by simp) rfl rfl (Ru hc)
  have uy:J1 ((4:Nat):Int) (O2.map Ma.af) (R2.map (List.map Ma.af))=w_ ((4:Nat):Int) (O2.map Ma.af) (R2.map (List.map Ma.af)) (sT R2):=by
   unfold J1;rw [xP g2,kO]
  rw [uy] at hr;obtain ⟨oa,on,oc,ra,rn,rc,OO,RR,h1,h2,h3⟩:=hr.Hq hc dY (Rt d_) (m:=4) (by rw [Rs d_]; rfl) (by decide);exact ⟨oa,on,oc,ra,rn,rc,h1,⟨OO,RR,h2⟩,h3⟩
end

theorem XW (args:Array Value) (w:World):(callFunc 47 args).run Tryz.prog w=.ok (.enter 47 args) w:=by kernel_rfl
theorem RB (args:Array Value) (w:World):(callFunc 18 args).run Tryz.prog w=.ok (.enter 18 args) w:=by kernel_rfl
theorem XX (args:Array Value) (w:World):(callFunc 11 args).run Tryz.prog w=.ok (.enter 11 args) w:=by kernel_rfl
theorem J8 (args:Array Value) (w:World):(callFunc 30 args).run Tryz.prog w=.ok (.enter 30 args) w:=by kernel_rfl
theorem XY (args:Array Value) (w:World):(callFunc 14 args).run Tryz.prog w=.ok (.enter 14 args) w:=by kernel_rfl
theorem XZ (args:Array Value) (w:World):(callFunc 50 args).run Tryz.prog w=.ok (.enter 50 args) w:=by kernel_rfl
theorem RC (args:Array Value) (w:World):(callFunc 43 args).run Tryz.prog w=.ok (.enter 43 args) w:=by kernel_rfl
theorem J9 (args:Array Value) (w:World):(callFunc 20 args).run Tryz.prog w=.ok (.enter 20 args) w:=by kernel_rfl
theorem RD (v1 v2:Value) (l1 l2:List Int) (w:World) (h1:Rg.Ints w v1 l1) (h2:Rg.Ints w v2 l2) :
  Calls Tryz.prog 20 #[v1,v2] w fun e w'=>e=.returned (.bool (decide (l1=l2)))/\∃ k,w'=w.drewN k:=by
 obtain ⟨a1,c1,rfl,n1,m1,_,k1⟩:=h1.shape;obtain ⟨a2,c2,rfl,n2,m2,_,k2⟩:=h2.shape;clear h1 h2;have K1:=U k1;have K2:=U k2;clear k1 k2;generalize hD:decide (l1=l2)=D;have HD:=U hD;clear hD
 by_cases hl:l1.length=l2.length
 ·have hb:((l1.length:Int) != (l2.length:Int))=false:=by rw [hl]; simp
  have Hl:=U hl;clear hl
  go_enter Tryz.func20,Tryz.ntmps20
  go_wp2;clear hb
  go_loopw [5] (fun v wr=>∃ i:Nat,v=.int .i64 i/\i<=l1.length/\(∃ k,wr=w.drewN k)/\Hid (l1.take i=l2.take i)) (fun v _=>l1.length - (intOf v).toNat)
  case atStart=>exact ⟨0,rfl,by omega,⟨0,rfl⟩,by show _=_; simp⟩
  case round =>
   obtain ⟨i,rfl,hi,⟨k,rfl⟩,hs⟩:=hrel
   by_cases aB:i<l1.length
   ·have jE:i<l2.length:=by have:=Hl.p; omega
    obtain ⟨b1,o1,rfl,cZ,d1⟩:=K1.p (by omega);obtain ⟨b2,o2,rfl,eB,d2⟩:=K2.p (by omega);have x1:w.cell? ⟨b1,o1+i,none⟩=_:=d1 i aB;have x2:w.cell? ⟨b2,o2+i,none⟩=_:=d2 i jE
    have lS:(i:Int)<(l2.length:Int):=by omega
    generalize hx:l1[i]=x at x1;generalize hy:l2[i]=y at x2;have Hx:=U hx;have Hy:=U hy;clear d1 d2 hx hy
    by_cases he:x=y
    ·have hb:(x != y)=false:=by rw [he]; simp
     have He:=U he;clear he;go_wp2
     go_quiet (fail)
     go_wp2
     go_roundw
     case rel=>exact ⟨i+1,by go_num,by omega,⟨_,rfl⟩,by show _=_; rw [List.take_succ_eq_append_getElem aB,List.take_succ_eq_append_getElem jE,hs.p,Hx.p,Hy.p,He.p]⟩
     case measure=>simp [intOf]; omega
    ·have hb:(x != y)=true:=by rw [bne_iff_ne]; exact he
     have He:=U he;clear he;go_wp2
     go_quiet (fail)
     go_wp2;go_ret;exact ⟨Rg.dU (by rw [<- HD.p]; symm; rw [decide_eq_false_iff_not]; intro hc; subst hc; exact He.p (Hx.p.symm.trans Hy.p)),_,World.drewN_drewN _ _ _⟩
   ·go_wp2
    go_ret;refine ⟨Rg.dU ?_,_,rfl⟩;rw [<- HD.p]; symm;rw [decide_eq_true_eq];have h1:=hs.p
    rwa [List.take_of_length_le (by omega),List.take_of_length_le (by have:=Hl.p; omega)] at h1
 ·have hb:((l1.length:Int) != (l2.length:Int))=true:=by rw [bne_iff_ne]; omega
  have Hl:=U hl;clear hl
  go_enter Tryz.func20,Tryz.ntmps20
  go_wp2;go_ret;exact ⟨Rg.dU (by rw [<- HD.p]; symm; rw [decide_eq_false_iff_not]; intro hc; subst hc; exact Hl.p rfl),0,rfl⟩
theorem sW {l1 l2:List Int} {b:Bool} (h1:Rg.Ints w v1 l1) (h2:Rg.Ints w v2 l2) (hd:Hid (decide (l1=l2)=b)) (hb:Below w0.heap.size w0 w) :
  Calls Tryz.prog 20 #[v1,v2] w fun e w'=>e=.returned (.bool b)/\Below w0.heap.size w0 w' :=
 (RD v1 v2 l1 l2 w h1 h2).mono fun _ _ ⟨a,_,c⟩=>⟨by rw [a,hd.p],by rw [c]; exact Rg.drewN hb _⟩
theorem jS (w:World):Calls Tryz.prog 10 #[] w fun e w'=>e=.returned (.bool true)/\Below w.heap.size w w':=by
 have K:=U (Below.refl w.heap.size w)
 go_enter Tryz.func10,Tryz.ntmps10
 go_upto_region 0 with (fail);refine c6 ?_;refine d6 0 (.bool false) ?_;go_frame;go_upto_region 1 with (fail);refine c6 ?_;refine f8 4 (j7 47 _ rfl (XW _ _)) ?_;refine (JW w).mono ?_;rintro e1 w1 ⟨oa,on,oc,ra,rn,rc,O1,R1,rfl,hce,hb⟩;have dE:=U hce.2;have cF:=hce.1;clear hce;refine ⟨_,rfl,?_⟩;go_frame;replace K:=U (Rg.acc K.p hb);clear hb;have E1:=U cF;refine d4 1 (aU rfl) ?_;go_frame;refine Rg.aA none rfl rfl (Rg.ai _ _ _ rfl _ rfl _ rfl (aM _ _ _ _ _ _ _ (bM.new w1 (.int .i64 0) (.slice none 0 0) (.slice none 0 0)))) ?_;go_frame;have eA:=(bM.new w1 (.int .i64 0) (.slice none 0 0) (.slice none 0 0)).set (.int .i64 ((4:Nat):Int)) (.slice oa on oc) (.slice ra rn rc);have hb:=((((Below.refl w1.heap.size w1).alloc (Nat.le_refl _) (.cells #[.int .i64 0,.slice none 0 0,.slice none 0 0] 25)).setCell (p:=⟨w1.heap.size,0,none⟩) (Nat.le_refl _) (.int .i64 ((4:Nat):Int))).setCell (p:=⟨w1.heap.size,1,none⟩) (Nat.le_refl _) (.slice oa on oc)).setCell (p:=⟨w1.heap.size,2,none⟩) (Nat.le_refl _) (.slice ra rn rc)
 generalize (((w1.alloc (.cells #[.int .i64 0,.slice none 0 0,.slice none 0 0] 25)).setCell ⟨w1.heap.size,0,none⟩ (.int .i64 ((4:Nat):Int))).setCell ⟨w1.heap.size,1,none⟩ (.slice oa on oc)).setCell ⟨w1.heap.size,2,none⟩ (.slice ra rn rc)=w2 at *;replace E1:=U (E1.p.jj hb);replace K:=U (Rg.acc K.p hb);clear hb;have T1:=U eA;clear eA;clear cF;go_upto_region 2 with (fail);refine c6 ?_;refine d4 6 (g9 ((.agg #[.int .i64 ((4:Nat):Int),.slice oa on oc,.slice ra rn rc])) ⟨w1.heap.size,0,none⟩ (aq T1.p.c0 T1.p.c1 T1.p.c2)) ?_;go_frame;have cK:=jw w2 3 [1,0,2,3] (by decide);refine d4 7 (gU _ _ 4 _ rfl [1,0,2,3] Tryz.underlying27 pX wI rfl (by decide) (by decide) rfl) ?_;go_frame;have hb:=(Below.refl w2.heap.size w2).alloc (Nat.le_refl _) (.cells (([1,0,2,3]:List Int).map (Value.int .i64)).toArray 3)
 generalize w2.alloc (.cells (([1,0,2,3]:List Int).map (Value.int .i64)).toArray 3)=w3 at *;replace E1:=U (E1.p.jj hb);replace T1:=U (T1.p.jj hb);replace K:=U (Rg.acc K.p hb);clear hb;have I7:=U cK;clear cK;have cK:=jw w3 3 [0,1,3,2] (by decide);refine d4 8 (gU _ _ 4 _ rfl [0,1,3,2] Tryz.underlying27 pX wI rfl (by decide) (by decide) rfl) ?_;go_frame;have hb:=(Below.refl w3.heap.size w3).alloc (Nat.le_refl _) (.cells (([0,1,3,2]:List Int).map (Value.int .i64)).toArray 3);generalize w3.alloc (.cells (([0,1,3,2]:List Int).map (Value.int .i64)).toArray 3)=w4 at *;replace E1:=U (E1.p.jj hb);replace T1:=U (T1.p.jj hb);replace I7:=U (I7.p.jj hb);replace K:=U (Rg.acc K.p hb);clear hb;have I8:=U cK;clear cK;refine f8 9 (dV 18 _ _ _ _ rfl rfl rfl rfl (RB _ _)) ?_;refine (J4 dE.p E1.p I7.p I8.p).mono ?_
 rintro e1 w5 ⟨xa,xm,xc,rfl,Dj,hb⟩;refine ⟨_,rfl,?_⟩;go_frame;replace E1:=U (E1.p.jj hb);replace T1:=U (T1.p.jj hb);replace I7:=U (I7.p.jj hb);replace I8:=U (I8.p.jj hb);replace K:=U (Rg.acc K.p hb);clear hb;have X1:=U Dj;refine d5 5 (.tuple #[.slice xa xm xc,.int .i64 0]) ?_;go_frame;refine d4 10 (i7 (.slice xa xm xc)) ?_;go_frame;refine d4 11 (i7 (.int .i64 0)) ?_;go_frame;refine d6 2 (.slice xa xm xc) ?_;go_frame;refine d6 3 (.int .i64 0) ?_;go_frame;clear Dj;clear I7 I8;go_upto_region 3 with (fail);have aw:Below w5.heap.size w5 w5.drew:=(Below.refl _ _).drew;replace E1:=U (E1.p.jj aw);replace T1:=U (T1.p.jj aw);replace X1:=U (X1.p.jj aw);replace K:=U (Rg.acc K.p aw);clear aw;refine Rg.Any.begin (S:=Rg.aI 34 (fun _=>True) (fun W=>Below w5.drew.heap.size w5.drew W)) mix ?_;generalize w5.drew=w6 at *
 have hS:∀ (l:Array Bool) W,Below w6.heap.size w6 W->Rg.aI 34 (fun _=>True) (fun W=>Below w6.heap.size w6 W) l W:=fun l W h=>⟨.inr trivial,h⟩;have hI:Below w6.heap.size w6 w6:=Below.refl _ _;refine d7 0 34 ((.agg #[.int .i64 ((4:Nat):Int),.slice oa on oc,.slice ra rn rc])) 12 rfl rfl (j0 ⟨w1.heap.size,0,none⟩ (fun W hW=>aq ((Below.cell (p:=⟨w1.heap.size,0,none⟩) hW T1.p.lt).trans T1.p.c0) ((Below.cell (p:=⟨w1.heap.size,1,none⟩) hW T1.p.lt).trans T1.p.c1) ((Below.cell (p:=⟨w1.heap.size,2,none⟩) hW T1.p.lt).trans T1.p.c2))) (hS _ _ hI) ?_;go_frame;have cK:=jw w6 3 [1,0,2,3] (by decide);have hb:=(Below.refl w6.heap.size w6).alloc (Nat.le_refl _) (.cells (([1,0,2,3]:List Int).map (Value.int .i64)).toArray 3);have aS:=Rg.acc hI hb;clear hb hI;refine i9 1 13 rfl rfl (gU _ _ 4 _ rfl [1,0,2,3] Tryz.underlying27 pX wI rfl (by decide) (by decide) rfl) (hS _ _ aS) ?_;go_frame
 generalize w6.alloc (.cells (([1,0,2,3]:List Int).map (Value.int .i64)).toArray 3)=w7 at *;have X0:=U cK;refine Rg.Any.one (i:=2) (by kernel_rfl) (Rg.Any.ask (some 14) rfl rfl rfl _ _ (aj 11 _ _ _ rfl rfl rfl (XX _ _)) ?_);refine (J5 dE.p (E1.p.jj aS) X0.p).mono ?_;rintro e1 w8 ⟨oa1,on1,oc1,ra1,rn1,rc1,rfl,SU,hb⟩;have bf:=Rg.acc aS hb;have bZ:=hb;clear hb aS;refine ⟨_,rfl,(hS _ _ bf),?_⟩;go_frame;have Q1:=U SU;refine d7 3 34 ((.agg #[.int .i64 ((4:Nat):Int),.slice oa1 on1 oc1,.slice ra1 rn1 rc1])) 15 rfl rfl (.inl ⟨rfl,fun w _=>aV (v:=(.agg #[.int .i64 ((4:Nat):Int),.slice oa1 on1 oc1,.slice ra1 rn1 rc1])) _ _ rfl rfl rfl⟩) (hS _ _ bf) ?_;go_frame;refine d7 4 34 (.int .i64 0) 16 rfl rfl (.inl ⟨rfl,fun w _=>aV (v:=.int .i64 0) _ _ rfl rfl rfl⟩) (hS _ _ bf) ?_;go_frame
 refine Rg.Any.one (i:=5) (by kernel_rfl) (Rg.Any.ask (some 17) rfl rfl rfl _ _ (aj 30 _ _ _ rfl rfl rfl (J8 _ _)) ?_);refine (sV Q1.p).mono ?_;rintro e1 w9 ⟨rfl,hb⟩;have cq:=Rg.acc bZ hb;have bx:=Rg.acc bf hb;have eK:=hb;clear hb bZ bf;refine ⟨_,rfl,(hS _ _ bx),?_⟩;go_frame;refine d7 6 34 (.bool true) 18 rfl rfl (.inl ⟨rfl,fun w _=>bN (R:=.bool true) .eql _ _ _ rfl rfl rfl (iN _ f9)⟩) (hS _ _ bx) ?_;go_frame;refine d8 7 34 (.bool true) 19 (hS _ _ bx) ?_;go_frame;refine d7 8 34 ((.agg #[.int .i64 ((4:Nat):Int),.slice oa on oc,.slice ra rn rc])) 20 rfl rfl (j0 ⟨w1.heap.size,0,none⟩ (fun W hW=>aq ((Below.cell (p:=⟨w1.heap.size,0,none⟩) hW T1.p.lt).trans T1.p.c0) ((Below.cell (p:=⟨w1.heap.size,1,none⟩) hW T1.p.lt).trans T1.p.c1) ((Below.cell (p:=⟨w1.heap.size,2,none⟩) hW T1.p.lt).trans T1.p.c2))) (hS _ _ bx) ?_;go_frame
 have cK:=jw w9 3 [0,1] (by decide);have hb:=(Below.refl w9.heap.size w9).alloc (Nat.le_refl _) (.cells (([0,1]:List Int).map (Value.int .i64)).toArray 3);have fW:=Rg.acc eK hb;have mf:=Rg.acc cq hb;have iQ:=Rg.acc bx hb;have DI:=hb;clear hb eK cq bx;refine i9 9 21 rfl rfl (gU _ _ 2 _ rfl [0,1] Tryz.underlying26 pX wI rfl (by decide) (by decide) rfl) (hS _ _ iQ) ?_;go_frame;generalize w9.alloc (.cells (([0,1]:List Int).map (Value.int .i64)).toArray 3)=Ja at *;have X4:=U cK;refine Rg.Any.one (i:=10) (by kernel_rfl) (Rg.Any.ask (some 22) rfl rfl rfl _ _ (aj 14 _ _ _ rfl rfl rfl (XY _ _)) ?_);refine (J6 dE.p (E1.p.jj iQ) X4.p).mono ?_;rintro e1 eh ⟨oa2,on2,OM,ra2,rn2,rc2,rfl,rr,hb⟩;have js:=Rg.acc DI hb;have nz:=Rg.acc fW hb;have zO:=Rg.acc mf hb
 have zP:=Rg.acc iQ hb;have RE:=hb;clear hb DI fW mf iQ;refine ⟨_,rfl,(hS _ _ zP),?_⟩;go_frame;have Q2:=U rr;refine d7 11 34 ((.agg #[.int .i64 ((4:Nat):Int),.slice oa2 on2 OM,.slice ra2 rn2 rc2])) 23 rfl rfl (.inl ⟨rfl,fun w _=>aV (v:=(.agg #[.int .i64 ((4:Nat):Int),.slice oa2 on2 OM,.slice ra2 rn2 rc2])) _ _ rfl rfl rfl⟩) (hS _ _ zP) ?_;go_frame;refine d7 12 34 (.int .i64 0) 24 rfl rfl (.inl ⟨rfl,fun w _=>aV (v:=.int .i64 0) _ _ rfl rfl rfl⟩) (hS _ _ zP) ?_;go_frame;refine Rg.Any.one (i:=13) (by kernel_rfl) (Rg.Any.ask (some 25) rfl rfl rfl _ _ (aj 30 _ _ _ rfl rfl rfl (J8 _ _)) ?_);refine (sV Q2.p).mono ?_;rintro e1 ru ⟨rfl,hb⟩;have lp:=Rg.acc RE hb;have cX:=Rg.acc js hb;have nA:=Rg.acc nz hb;have zQ:=Rg.acc zO hb;have sX:=Rg.acc zP hb;have RG:=hb
 clear hb RE js nz zO zP;refine ⟨_,rfl,(hS _ _ sX),?_⟩;go_frame;refine d7 14 34 (.bool true) 26 rfl rfl (.inl ⟨rfl,fun w _=>bN (R:=.bool true) .eql _ _ _ rfl rfl rfl (iN _ f9)⟩) (hS _ _ sX) ?_;go_frame;refine d7 15 34 (.bool true) 27 rfl rfl (.inl ⟨rfl,fun w _=>kH (v:=.bool true) _ _ _ rfl rfl rfl⟩) (hS _ _ sX) ?_;go_frame;refine d8 16 34 (.bool true) 28 (hS _ _ sX) ?_;go_frame;refine d7 17 34 ((.agg #[.int .i64 ((4:Nat):Int),.slice oa on oc,.slice ra rn rc])) 29 rfl rfl (j0 ⟨w1.heap.size,0,none⟩ (fun W hW=>aq ((Below.cell (p:=⟨w1.heap.size,0,none⟩) hW T1.p.lt).trans T1.p.c0) ((Below.cell (p:=⟨w1.heap.size,1,none⟩) hW T1.p.lt).trans T1.p.c1) ((Below.cell (p:=⟨w1.heap.size,2,none⟩) hW T1.p.lt).trans T1.p.c2))) (hS _ _ sX) ?_;go_frame;refine Rg.Any.one (i:=18) (by kernel_rfl) (Rg.Any.ask (some 30) rfl rfl rfl _ _ (j7 50 _ rfl (XZ _ _)) ?_)
 refine (JX ru).mono ?_;rintro e1 w13 ⟨pa,pn,pc,qa,qn,qc,O2,R2,rfl,B_,hb⟩;have HCI:=U B_.2;have d_:=B_.1;clear B_;have qH:=Rg.acc RG hb;have nx:=Rg.acc lp hb;have sQ:=Rg.acc cX hb;have dZ:=Rg.acc nA hb;have zR:=Rg.acc zQ hb;have D0:=Rg.acc sX hb;have RH:=hb;clear hb RG lp cX nA zQ sX;refine ⟨_,rfl,(hS _ _ D0),?_⟩;go_frame;have E2:=U d_;refine Rg.Any.one (i:=19) (by kernel_rfl) (Rg.Any.ask (some 31) rfl rfl rfl _ _ (aj 43 _ _ _ rfl rfl rfl (RC _ _)) ?_);refine (J7 dE.p HCI.p (E1.p.jj D0) E2.p).mono ?_;rintro e1 w14 ⟨oa3,on3,TE,ra3,rn3,rc3,rfl,hq3,hb⟩;have gK:=Rg.acc RH hb;have jt:=Rg.acc qH hb;have lq:=Rg.acc nx hb;have zz:=Rg.acc sQ hb;have RI:=Rg.acc dZ hb;have RJ:=Rg.acc zR hb;have zS:=Rg.acc D0 hb
 have RK:=hb;clear hb RH qH nx sQ dZ zR D0;refine ⟨_,rfl,(hS _ _ zS),?_⟩;go_frame;have Q3:=U hq3;refine d7 20 34 ((.agg #[.int .i64 ((4:Nat):Int),.slice oa3 on3 TE,.slice ra3 rn3 rc3])) 32 rfl rfl (.inl ⟨rfl,fun w _=>aV (v:=(.agg #[.int .i64 ((4:Nat):Int),.slice oa3 on3 TE,.slice ra3 rn3 rc3])) _ _ rfl rfl rfl⟩) (hS _ _ zS) ?_;go_frame;refine d7 21 34 (.int .i64 0) 33 rfl rfl (.inl ⟨rfl,fun w _=>aV (v:=.int .i64 0) _ _ rfl rfl rfl⟩) (hS _ _ zS) ?_;go_frame;refine Rg.Any.one (i:=22) (by kernel_rfl) (Rg.Any.ask (some 34) rfl rfl rfl _ _ (aj 30 _ _ _ rfl rfl rfl (J8 _ _)) ?_);refine (sV Q3.p).mono ?_;rintro e1 il ⟨rfl,hb⟩;have fA:=Rg.acc RK hb;have eD:=Rg.acc gK hb;have gO:=Rg.acc jt hb;have Lp:=Rg.acc lq hb;have Lq:=Rg.acc zz hb;have Lr:=Rg.acc RI hb
 have Ls:=Rg.acc RJ hb;have pg:=Rg.acc zS hb;have Lt:=hb;clear hb RK gK jt lq zz RI RJ zS;refine ⟨_,rfl,(hS _ _ pg),?_⟩;go_frame;refine d7 23 34 (.bool true) 35 rfl rfl (.inl ⟨rfl,fun w _=>bN (R:=.bool true) .eql _ _ _ rfl rfl rfl (iN _ f9)⟩) (hS _ _ pg) ?_;go_frame;refine d7 24 34 (.bool true) 36 rfl rfl (.inl ⟨rfl,fun w _=>kH (v:=.bool true) _ _ _ rfl rfl rfl⟩) (hS _ _ pg) ?_;go_frame;refine d8 25 34 (.bool true) 37 (hS _ _ pg) ?_;go_frame;refine d8 26 34 (.slice xa xm xc) 38 (hS _ _ pg) ?_;go_frame;have cK:=jw il 3 [2,3,0,1] (by decide);have hb:=(Below.refl il.heap.size il).alloc (Nat.le_refl _) (.cells (([2,3,0,1]:List Int).map (Value.int .i64)).toArray 3);have f_:=Rg.acc Lt hb;have dO:=Rg.acc fA hb;have dF:=Rg.acc eD hb
 have fB:=Rg.acc gO hb;have Lu:=Rg.acc Lp hb;have Lw:=Rg.acc Lq hb;have Ly:=Rg.acc Lr hb;have Lz:=Rg.acc Ls hb;have xQ:=Rg.acc pg hb;have LA:=hb;clear hb Lt fA eD gO Lp Lq Lr Ls pg;refine i9 27 39 rfl rfl (gU _ _ 4 _ rfl [2,3,0,1] Tryz.underlying26 pX wI rfl (by decide) (by decide) rfl) (hS _ _ xQ) ?_;go_frame;generalize il.alloc (.cells (([2,3,0,1]:List Int).map (Value.int .i64)).toArray 3)=zF at *;have X6:=U cK;refine Rg.Any.one (i:=28) (by kernel_rfl) (Rg.Any.ask (some 40) rfl rfl rfl _ _ (aj 20 _ _ _ rfl rfl rfl (J9 _ _)) ?_);refine (sW (w0:=zF) (X1.p.jj xQ) X6.p (U (decide_eq_true rfl)) (Below.refl _ _)).mono ?_;rintro e1 iH ⟨rfl,hb⟩;have kE:=Rg.acc LA hb;have jT:=Rg.acc f_ hb;have dA:=Rg.acc dO hb
 have cY:=Rg.acc dF hb;have jf:=Rg.acc fB hb;have LB:=Rg.acc Lu hb;have Ue:=Rg.acc Lw hb;have LC:=Rg.acc Ly hb;have LD:=Rg.acc Lz hb;have jg:=Rg.acc xQ hb;have Hs:=hb;clear hb LA f_ dO dF fB Lu Lw Ly Lz xQ;refine ⟨_,rfl,(hS _ _ jg),?_⟩;go_frame;refine d7 29 34 (.bool true) 41 rfl rfl (.inl ⟨rfl,fun w _=>kH (v:=.bool true) _ _ _ rfl rfl rfl⟩) (hS _ _ jg) ?_;go_frame;refine d8 30 34 (.bool true) 42 (hS _ _ jg) ?_;go_frame;refine d8 31 34 (.int .i64 0) 43 (hS _ _ jg) ?_;go_frame;refine d7 32 34 (.bool true) 44 rfl rfl (.inl ⟨rfl,fun w _=>dG _ _ rfl rfl rfl rfl⟩) (hS _ _ jg) ?_;go_frame;refine d7 33 34 (.bool true) 45 rfl rfl (.inl ⟨rfl,fun w _=>kH (v:=.bool true) _ _ _ rfl rfl rfl⟩) (hS _ _ jg) ?_;go_frame
 refine i9 34 0 rfl rfl (a8 (.bool true) _ rfl rfl) (hS _ _ jg) ?_;go_frame;refine Rg.Any.done (by kernel_rfl) ?_ _;replace E1:=U (E1.p.jj jg);replace T1:=U (T1.p.jj jg);replace X1:=U (X1.p.jj jg);replace X0:=U (X0.p.jj LD);replace Q1:=U (Q1.p.jj LC);replace X4:=U (X4.p.jj LB);replace Q2:=U (Q2.p.jj jf);replace E2:=U (E2.p.jj dA);replace Q3:=U (Q3.p.jj jT);replace X6:=U (X6.p.jj Hs);replace K:=U (Rg.acc K.p jg);clear hS kE jT Hs dA cY jf LB Ue LC LD jg;go_wp2;go_ret;exact ⟨rfl,K.p⟩

theorem RL (args:Array Value) (w:World):(callFunc 29 args).run Tryz.prog w=.ok (.enter 29 args) w:=by kernel_rfl
theorem J_ (args:Array Value) (w:World):(callFunc 28 args).run Tryz.prog w=.ok (.enter 28 args) w:=by kernel_rfl
theorem X7 (args:Array Value) (w:World):(callFunc 88 args).run Tryz.prog w=.ok (.enter 88 args) w:=by kernel_rfl
theorem Uf (gv:Value) (d:Int) (ll:List (List Int)) (w:World) (h:Rg.Rows w gv ll) :
  Calls Tryz.prog 65 #[.agg #[.int .i64 d,gv]] w fun e w'=>∃ cv,e=.returned (.tuple #[cv,.int .i64 (Ma.gM d ll)])/\dN w.heap.size w' d ll cv (Ma.gM d ll)/\Below w.heap.size w w':=by
 obtain ⟨ga,gc,rfl,Ad,EL⟩:=GI.enter (d) h;have K:=U EL;have G0:=U Ad;clear h Ad EL
 go_enter Tryz.func65,Tryz.ntmps65
 go_upto_region 0 with (fail);refine c6 ?_;refine d4 1 (Rg.aY _ _ rfl rfl) ?_;go_frame;generalize w.alloc (.cells #[.int .i64 d,.slice ga ll.length gc] 43)=w0 at *;have Ht:=U K.p.size;have cK:=bM.new w0 (.int .i64 0) (.slice none 0 0) (.slice none 0 0);refine d4 2 (aU rfl) ?_;go_frame;have hb:=(Below.refl w0.heap.size w0).alloc (Nat.le_refl _) (.cells #[.int .i64 0,.slice none 0 0,.slice none 0 0] 25);generalize w0.alloc (.cells #[.int .i64 0,.slice none 0 0,.slice none 0 0] 25)=w1 at *;replace G0:=U (G0.p.jj hb);replace K:=U (Rg.acc K.p hb);clear hb;have FT:=U cK;clear cK;go_upto_region 1 with (fail);refine c6 ?_;refine d4 5 (g9 (.agg #[.int .i64 d,.slice ga ll.length gc]) ⟨w.heap.size,0,none⟩ (fS G0.p.c0 G0.p.c1)) ?_;go_frame;refine f8 6 (aE 88 _ _ rfl rfl (X7 _ _)) ?_;refine (xg _ _ _ w1 G0.p.rows).mono ?_
 rintro e1 w2 ⟨rfl,hb⟩;refine ⟨_,rfl,?_⟩;go_frame;replace G0:=U (G0.p.jj hb);replace FT:=U (FT.p.jj hb);replace K:=U (Rg.acc K.p hb);clear hb;refine d6 4 (.int .i64 (Ma.gM d ll)) ?_;go_frame
 by_cases hz:Ma.gM d ll=0
 ·obtain ⟨n,gs,hd,Ay,r_,bW,cN,iy⟩:=Od hz
  have ft:∀ s∈gs,Cm.Gd n s:=fun s hs=>r_ s hs;have Az:=U Ay;have nT:=U iy;have eQ:=U ft;subst hd;clear Ay iy r_ ft;go_upto_region 2 with (fail);refine c6 ?_;refine d5 7 (.int .i64 (Ma.gM ((n:Nat):Int) ll)) ?_;go_frame;refine d4 8 (i3 (.bool false) .neq (h:=aQ _ g7)) ?_;go_frame;go_upto_region 4 with (fail);refine c6 ?_;refine d4 11 (bY _ rfl rfl) ?_;go_frame;refine d4 12 (g9 (.int .i64 ((n:Nat):Int)) ⟨w.heap.size,0,none⟩ (ah G0.p.c0)) ?_;go_frame;refine d4 13 (dw _ rfl rfl) ?_;go_frame;refine d4 14 (g9 (.slice ga ll.length gc) ⟨w.heap.size,1,none⟩ (Rg.ae _ _ Tryz.underlying41 G0.p.c1)) ?_;go_frame;have Pq:=U FT.p.lt;refine f8 15 (aj 69 _ _ _ rfl rfl rfl (I9 _ _)) ?_;refine (yE bW cN (by have:=G0.p.rows; rw [show gs.map Ma.af=ll from Az.p.symm]; exact this) eQ.p (by have:=nT.p; omega)).mono ?_
  rintro e1 w3 ⟨tb,L,F1,T1,V1,rfl,tL,qd,qe,Fu,hb⟩;have HB:=U Fu;have Dk:=U (Nat.lt_of_lt_of_le Pq.p hb.size);refine ⟨_,rfl,?_⟩;go_frame;replace G0:=U (G0.p.jj hb);replace FT:=U (FT.p.jj hb);replace K:=U (Rg.acc K.p hb);clear hb;have HT:=U tL;have C0:=U qd;have C1:=U qe;clear tL qd qe Fu;refine f8 16 (aE 70 _ _ rfl rfl (I_ _ _)) ?_;refine (sy bW cN HT.p C0.p C1.p (Cm.Gr.bV eQ.p) (HB.p.EF (by omega) eQ.p) (fun j hj=>(HB.p.full j hj).1)).mono ?_;rintro e1 w4 ⟨ov,rv,O,R,rfl,hO,hR,Fv,hb⟩;obtain ⟨oa,oc,rfl,_⟩:=hO.rows.shape;obtain ⟨ra,rc,rfl⟩:=hR.rows.shape;have HO:=U hO;have HR:=U hR;have dE:=U Fv;clear hO hR Fv;refine ⟨_,rfl,?_⟩;go_frame;replace G0:=U (G0.p.jj hb);replace FT:=U (FT.p.jj hb);replace HT:=U (HT.p.jj hb);replace C0:=U (C0.p.jj hb)
  replace C1:=U (C1.p.jj hb);replace K:=U (Rg.acc K.p hb);clear hb;refine Rg.aA none rfl rfl (Rg.ai _ _ _ rfl _ rfl _ rfl (aM _ _ _ _ _ _ _ FT.p)) ?_;go_frame;refine d6 3 (.int .i64 ((0:Nat):Int)) ?_;go_frame;have Au:=FT.p.set (.int .i64 ((n:Nat):Int)) (.slice oa (O.map Ma.af).length oc) (.slice ra (R.map (List.map Ma.af)).length rc);have C_:=Rg.Kp.trans (Rg.Kp.trans (Rg.Kp.aO (M:=fun z=>z=w0.heap.size) (w:=w4) (a:=⟨w0.heap.size,0,none⟩) (v:=.int .i64 ((n:Nat):Int)) rfl) (Rg.Kp.aO (M:=fun z=>z=w0.heap.size) (a:=⟨w0.heap.size,1,none⟩) (v:=(.slice oa (O.map Ma.af).length oc)) rfl) (fun _ _ e=>e)) (Rg.Kp.aO (M:=fun z=>z=w0.heap.size) (a:=⟨w0.heap.size,2,none⟩) (v:=(.slice ra (R.map (List.map Ma.af)).length rc)) rfl) (fun _ _ e=>e);have hro:=(aG.kp HO.p C_ (fun z g e=>by have:=Dk.p; omega)).mono (fun z hz=>by have:=Dk.p; have:=Ht.p; omega:∀ z,_->w.heap.size<=z)
  have Pr:=bg.mono (HR.p.kp C_ (fun z g e=>by have:=Dk.p; omega)) (fun z hz=>by have:=Dk.p; have:=Ht.p; omega:∀ z,_->w.heap.size<=z);have Av:=((K.p.setCell (p:=⟨w0.heap.size,0,none⟩) Ht.p (.int .i64 ((n:Nat):Int))).setCell (p:=⟨w0.heap.size,1,none⟩) Ht.p (.slice oa (O.map Ma.af).length oc)).setCell (p:=⟨w0.heap.size,2,none⟩) Ht.p (.slice ra (R.map (List.map Ma.af)).length rc);generalize ((w4.setCell ⟨w0.heap.size,0,none⟩ (.int .i64 ((n:Nat):Int))).setCell ⟨w0.heap.size,1,none⟩ (.slice oa (O.map Ma.af).length oc)).setCell ⟨w0.heap.size,2,none⟩ (.slice ra (R.map (List.map Ma.af)).length rc)=ep at *;have pL:=U Au
  have nU:=U (show ∃ cv,Ending.returned (.tuple #[.agg #[.int .i64 ((n:Nat):Int),(.slice oa (O.map Ma.af).length oc),(.slice ra (R.map (List.map Ma.af)).length rc)],.int .i64 0])=.returned (.tuple #[cv,.int .i64 (Ma.gM ((n:Nat):Int) ll)])/\dN w.heap.size ep ((n:Nat):Int) ll cv (Ma.gM ((n:Nat):Int) ll)/\Below w.heap.size w ep from
   ⟨_,by rw [hz],.inr ⟨hz,n,gs,rfl,Az.p,bW,cN,_,_,O,R,rfl,hro,Pr,dE.p⟩,Av⟩)
  clear Au C_ hro Pr Av;go_wp2;exact bodyPost_ret (bA (p:=2) (u:=3) rfl _ rfl rfl pL.p) rfl nU.p
 ·skip
  go_upto_region 2 with (fail);refine c6 ?_;refine d5 7 (.int .i64 (Ma.gM d ll)) ?_;go_frame;refine d4 8 (i3 (.bool true) .neq (h:=aQ _ f9)) ?_;go_frame;go_upto_region 3 with (fail);refine c6 ?_;refine d4 9 (e_ rfl) ?_;go_frame;refine d5 10 (.int .i64 (Ma.gM d ll)) ?_;go_frame;refine Rg.aA none rfl rfl (Rg.ai _ _ _ rfl _ rfl _ rfl (aM _ _ _ _ _ _ _ FT.p)) ?_;go_frame;refine d6 3 (.int .i64 (Ma.gM d ll)) ?_;go_frame;have Au:=FT.p.set (.int .i64 0) (.slice none 0 0) (.slice none 0 0);have Av:=((K.p.setCell (p:=⟨w0.heap.size,0,none⟩) Ht.p (.int .i64 0)).setCell (p:=⟨w0.heap.size,1,none⟩) Ht.p (.slice none 0 0)).setCell (p:=⟨w0.heap.size,2,none⟩) Ht.p (.slice none 0 0);generalize ((w2.setCell ⟨w0.heap.size,0,none⟩ (.int .i64 0)).setCell ⟨w0.heap.size,1,none⟩ (.slice none 0 0)).setCell ⟨w0.heap.size,2,none⟩ (.slice none 0 0)=ep at *
  have pL:=U Au
  have nU:=U (show ∃ cv,Ending.returned (.tuple #[sA,.int .i64 (Ma.gM d ll)])=.returned (.tuple #[cv,.int .i64 (Ma.gM d ll)])/\dN w.heap.size ep d ll cv (Ma.gM d ll)/\Below w.heap.size w ep from
   ⟨_,rfl,.inl ⟨hz,rfl⟩,Av⟩)
  clear Au Av;go_wp2;exact bodyPost_ret (bA (p:=2) (u:=3) rfl _ rfl rfl pL.p) rfl nU.p
theorem qP (x:Int) (k:Nat) (w:World) (h0:1<=k) (h1:k<=1000):Calls Tryz.prog 28 #[.int .i64 x,.int .i64 ((k:Nat):Int)] w fun e w'=>∃ r:Nat,e=.returned (.int .i64 ((r:Nat):Int))/\r<k/\Below w.heap.size w w':=by
 have s9:¬ ((k:Nat):Int)=0:=by omega
 have bW:¬ ((k:Nat):Int)<1:=by omega
 have N6:(0:Int)<k:=by omega
 have h2:=Int.tmod_lt_of_pos x N6
 have h3:-((k:Nat):Int)<x.tmod k:=by
  have:=Int.lt_tmod_of_pos x N6;omega
 by_cases aB:x.tmod k<0
 ·obtain ⟨r,hr⟩:∃ r:Nat,x.tmod k+k=((r:Nat):Int):=⟨(x.tmod k+k).toNat,by omega⟩
  have HR:=U hr;clear hr
  go_enter Tryz.func28,Tryz.ntmps28
  go_wp2;go_ret;exact ⟨r,by rw [<- HR.p]; rfl,by have:=HR.p; omega,Below.refl _ _⟩
 ·obtain ⟨r,hr⟩:∃ r:Nat,x.tmod k=((r:Nat):Int):=⟨(x.tmod k).toNat,by omega⟩
  have HR:=U hr;clear hr
  go_enter Tryz.func28,Tryz.ntmps28
  go_wp2;go_ret;exact ⟨r,by rw [<- HR.p]; rfl,by have:=HR.p; omega,Below.refl _ _⟩
theorem uH (v:Value) (l:List Int) (i:Nat) (w:World) (h:Rg.cV maxLen w v l) (hi:i<=1000):Calls Tryz.prog 29 #[v,.int .i64 ((i:Nat):Int)] w fun e w'=>∃ z,e=.returned (.int .i64 z)/\Below w.heap.size w w':=by
 obtain ⟨la,lc,rfl,n1,n2,n3,k1⟩:=h.shape;have K1:=U k1;clear h k1
 have h0:¬ ((i:Nat):Int)<0:=by omega
 by_cases aB:i<l.length
 ·obtain ⟨b,o,rfl,hb,d⟩:=K1.p (by omega)
  have x1:w.cell? ⟨b,o+i,none⟩=_:=d i aB;generalize l[i]=x at x1;clear d K1
  have hg:¬ ((l.length:Nat):Int)<=((i:Nat):Int):=by omega
  go_enter Tryz.func29,Tryz.ntmps29
  go_wp2;go_ret;exact ⟨⟨x,rfl⟩,Below.refl _ _⟩
 ·have hg:((l.length:Nat):Int)<=((i:Nat):Int):=by omega
  go_enter Tryz.func29,Tryz.ntmps29
  go_wp2;go_ret;exact ⟨⟨0,rfl⟩,Below.refl _ _⟩
theorem wo (bW:1<=n) (cN:n<=64) (lv:Value) (l:List Int) (w:World) (h:Rg.cV maxLen w lv l) :
  Calls Tryz.prog 26 #[.int .i64 ((n:Nat):Int),lv] w fun e w'=>∃ v y,e=.returned v/\Gd n y/\Rg.NP w' v y/\Below w.heap.size w w':=by
 obtain ⟨la,lc,rfl,-⟩:=h.shape;have HL:=U (IB.mk h);have K:=U (Below.refl w.heap.size w);clear h
 go_enter Tryz.func26,Tryz.ntmps26
 go_upto_region 0 with (fail);refine c6 ?_;refine d6 4 (.slice none 0 0) ?_;go_frame;go_upto_region 1 with (fail);refine c6 ?_;refine d5 9 (.int .i64 ((n:Nat):Int)) ?_;go_frame;refine d4 10 (py _ _ _ rfl _ _ rfl rfl (mE n (by omega) w)) ?_;go_frame;refine d6 5 (.slice (some ⟨w.heap.size,0,none⟩) n n) ?_;go_frame;have k_:=ze w n;have M0:Below w.heap.size w (w.alloc (.cells (madeCells #[.int .i64 0] n) 3)):=(Below.refl _ _).alloc (Nat.le_refl _) _;obtain ⟨gb,vK⟩:∃ b,w.heap.size=b:=⟨_,rfl⟩;have Jz:=U (show w.heap.size<=gb from Nat.le_of_eq vK);rw [vK] at k_ ⊢;generalize w.alloc (.cells (madeCells #[.int .i64 0] n) 3)=wf at *;have RW:=U (show cL wf gb n (fun t=>if t<0 then ((t:Nat):Int) else 0) from k_.congr (fun i _=>by rw [if_neg (Nat.not_lt_zero _)]));clear K;have K:=U (show Below w.heap.size w wf by rw [vK]; rw [vK] at M0; exact M0)
 clear k_ M0 vK;go_upto_region 2 with (fail);refine c6 ?_;refine d6 6 (.int .i64 ((0:Nat):Int)) ?_;go_frame;go_wp2
 go_loopw [6] (fun iv wr=>∃ t:Nat,iv=.int .i64 ((t:Nat):Int)/\t<=n/\Hid (cL wr gb n (fun s=>if s<t then ((s:Nat):Int) else 0))/\Hid (Below w.heap.size w wr)) (fun iv _=>n - (intOf iv).toNat)
 case atStart=>exact ⟨0,rfl,Nat.zero_le _,RW,K⟩
 case round =>
  clear RW K;obtain ⟨t,rfl,ht,RW,K⟩:=hrel;generalize wr=wg at *
  by_cases htm:t<n
  case pos =>
   have RM:=U htm;go_upto_region 3 with (fail);refine c6 ?_;refine d5 11 (.int .i64 ((t:Nat):Int)) ?_;go_frame;refine d5 12 (.int .i64 ((n:Nat):Int)) ?_;go_frame;refine d4 13 (i3 (.bool true) .lss (h:=bj _ f9)) ?_;go_frame;go_upto_region 5 with (fail);refine c6 ?_;refine d5 16 (.slice (some ⟨gb,0,none⟩) n n) ?_;go_frame;refine d5 17 (.int .i64 ((t:Nat):Int)) ?_;go_frame;refine d5 18 (.int .i64 ((t:Nat):Int)) ?_;go_frame;refine d4 19 (aD cw _ _ rfl gb (0) (n) n (t) rfl rfl RM.p) ?_;go_frame;refine Rg.aA none rfl rfl (Rg.ai _ _ _ rfl _ rfl _ rfl (cy ((t:Nat):Int) (by rw [Nat.zero_add]; exact RW.p.2.1 t RM.p) (by rw [Nat.zero_add]; exact RW.p.2.2 t))) ?_;go_frame
   have k_:cL (wg.setCell ⟨gb,0+t,none⟩ (.int .i64 ((t:Nat):Int))) gb n (fun s=>if s<t+1 then ((s:Nat):Int) else 0):=by
    rw [Nat.zero_add];refine (RW.p.set t ((t:Nat):Int) RM.p).congr fun i hi=>?_
    by_cases e:i=t
    ·subst e; rw [if_pos rfl,if_pos (by omega)]
    ·rw [if_neg e]
     by_cases e2:i<t
     ·rw [if_pos e2,if_pos (by omega)]
     ·rw [if_neg e2,if_neg (by omega)]
   have sN:=K.p.setCell (p:=⟨gb,0+t,none⟩) Jz.p (.int .i64 ((t:Nat):Int));generalize wg.setCell ⟨gb,0+t,none⟩ (.int .i64 ((t:Nat):Int))=wh at *;have WQ:=U k_;have K2:=U sN;clear k_ sN RW K;go_upto_region 4 with (fail);refine c6 ?_;refine d5 14 (.int .i64 ((t:Nat):Int)) ?_;go_frame;refine d4 15 (i3 (.int .i64 (((t+1):Nat):Int)) .add (h:=cg _ (by omega) (by omega))) ?_;go_frame;refine d6 6 (.int .i64 (((t+1):Nat):Int)) ?_;go_frame;go_wp2
   go_roundw
   case rel=>exact ⟨t+1,by go_num,RM.p,WQ,K2⟩
   case measure=>simp [intOf]; have:=RM.p; omega
  obtain rfl:t=n:=by omega
  have PR:=U (BC (RW.p.congr fun i hi=>by rw [if_pos hi]));have GY:=U (Cm.dM t);clear RW;go_upto_region 3 with (fail);refine c6 ?_;refine d5 11 (.int .i64 ((t:Nat):Int)) ?_;go_frame;refine d5 12 (.int .i64 ((t:Nat):Int)) ?_;go_frame;refine d4 13 (i3 (.bool false) .lss (h:=bj _ g7)) ?_;go_frame;go_upto_region 6 with (fail);refine c6 ?_;refine d6 7 (.int .i64 ((0:Nat):Int)) ?_;go_frame;go_wp2
  go_loopw [7] (fun iv wr=>∃ (i:Nat) (y:List Nat),iv=.int .i64 ((i:Nat):Int)/\i<=t/\Hid (h_ wr gb t y)/\Hid (Gd t y)/\Hid (Below w.heap.size w wr)) (fun iv _=>t - (intOf iv).toNat)
  case atStart=>exact ⟨0,_,rfl,Nat.zero_le _,PR,GY,K⟩
  case round =>
   clear PR GY K;obtain ⟨i,y,rfl,hi,PR,GY,K⟩:=hrel;generalize wr=wk at *
   by_cases ly:i<t
   case neg =>
    obtain rfl:i=t:=by omega
    go_upto_region 7 with (fail);refine c6 ?_;refine d5 20 (.int .i64 ((i:Nat):Int)) ?_;go_frame;refine d5 21 (.int .i64 ((i:Nat):Int)) ?_;go_frame;refine d4 22 (i3 (.bool false) .lss (h:=bj _ g7)) ?_;go_frame;go_upto_region 11 with (fail);refine c6 ?_;refine d5 48 (.slice (some ⟨gb,0,none⟩) i i) ?_;go_frame;refine d6 4 (.slice (some ⟨gb,0,none⟩) i i) ?_;go_frame;go_wp2;go_ret;exact ⟨_,y,rfl,GY.p,PR.p.np GY.p (Nat.le_refl _) (by unfold maxLen; omega) (by omega),K.p⟩
   case pos =>
    skip
    go_upto_region 7 with (fail);refine c6 ?_;refine d5 20 (.int .i64 ((i:Nat):Int)) ?_;go_frame;refine d5 21 (.int .i64 ((t:Nat):Int)) ?_;go_frame;refine d4 22 (i3 (.bool true) .lss (h:=bj _ f9)) ?_;go_frame;go_upto_region 9 with (fail);refine c6 ?_;refine d5 25 (.int .i64 ((i:Nat):Int)) ?_;go_frame;refine d5 26 (.slice la l.length lc) ?_;go_frame;refine d5 27 (.int .i64 ((i:Nat):Int)) ?_;go_frame;refine f8 28 (aj 29 _ _ _ rfl rfl rfl (RL _ _)) ?_;refine (uH _ l i wk (HL.p.jj K.p).i (by omega)).mono ?_;rintro e1 gY ⟨z,rfl,hb⟩;refine ⟨_,rfl,?_⟩;go_frame;replace PR:=U (PR.p.jj hb);replace K:=U (Rg.acc K.p hb);clear hb;refine d5 29 (.int .i64 ((t:Nat):Int)) ?_;go_frame;refine d5 30 (.int .i64 ((i:Nat):Int)) ?_;go_frame;refine d4 31 (i3 (.int .i64 (((t - i):Nat):Int)) .sub (h:=lU _ (by omega) (by omega))) ?_;go_frame
    refine f8 32 (aj 28 _ _ _ rfl rfl rfl (J_ _ _)) ?_;refine (qP z (t - i) gY (by omega) (by omega)).mono ?_;rintro e1 iB ⟨r,rfl,hr,hb⟩
    have vS:i+r<t:=by omega
    clear hr;refine ⟨_,rfl,?_⟩;go_frame;replace PR:=U (PR.p.jj hb);replace K:=U (Rg.acc K.p hb);clear hb;refine d4 33 (i3 (.int .i64 (((i+r):Nat):Int)) .add (h:=cg _ (by omega) (by omega))) ?_;go_frame;refine d6 8 (.int .i64 (((i+r):Nat):Int)) ?_;go_frame;go_upto_region 10 with (fail);have eH:Below iB.heap.size iB iB.drew:=(Below.refl _ _).drew;replace PR:=U (h_.jj PR.p eH);replace K:=U (Rg.acc K.p eH);clear eH;have aw:Below iB.heap.size iB iB.drew:=(Below.refl _ _).drew;generalize dS (fun _:Nat=>True) iB iB.drew=F1 at *;clear aw;refine Rg.Any.begin (S:=Rg.aI 13 (fun W:World=>W.cell? ⟨gb,i,none⟩=some (.int .i64 ((y.getD i 0:Nat):Int))/\W.cell? ⟨gb,i+r,none⟩=some (.int .i64 ((y.getD (i+r) 0:Nat):Int))) (fun _=>True)) mix ?_;generalize iB.drew=rf at *;have hS:∀ (l:Array Bool) W,(fun W:World=>W.cell? ⟨gb,i,none⟩=some (.int .i64 ((y.getD i 0:Nat):Int))/\W.cell? ⟨gb,i+r,none⟩=some (.int .i64 ((y.getD (i+r) 0:Nat):Int))) W->Rg.aI 13 (fun W:World=>W.cell? ⟨gb,i,none⟩=some (.int .i64 ((y.getD i 0:Nat):Int))/\W.cell? ⟨gb,i+r,none⟩=some (.int .i64 ((y.getD (i+r) 0:Nat):Int))) (fun _=>True) l W:=fun l W h=>⟨.inr h,trivial⟩
    have bT:∀ (l:Array Bool) W,l.getD 13 false=true->Rg.aI 13 (fun W:World=>W.cell? ⟨gb,i,none⟩=some (.int .i64 ((y.getD i 0:Nat):Int))/\W.cell? ⟨gb,i+r,none⟩=some (.int .i64 ((y.getD (i+r) 0:Nat):Int))) (fun _=>True) l W:=fun l W h=>⟨.inl h,trivial⟩;have hI:(fun W:World=>W.cell? ⟨gb,i,none⟩=some (.int .i64 ((y.getD i 0:Nat):Int))/\W.cell? ⟨gb,i+r,none⟩=some (.int .i64 ((y.getD (i+r) 0:Nat):Int))) rf:=⟨PR.p.2.1 i ly,PR.p.2.1 (i+r) vS⟩;refine d8 0 13 (.slice (some ⟨gb,0,none⟩) t t) 34 (hS _ _ hI) ?_;go_frame;refine d8 1 13 (.int .i64 ((i:Nat):Int)) 35 (hS _ _ hI) ?_;go_frame;refine d8 2 13 (.slice (some ⟨gb,0,none⟩) t t) 36 (hS _ _ hI) ?_;go_frame;refine d8 3 13 (.int .i64 (((i+r):Nat):Int)) 37 (hS _ _ hI) ?_;go_frame;refine d8 4 13 (.slice (some ⟨gb,0,none⟩) t t) 38 (hS _ _ hI) ?_;go_frame
    refine d8 5 13 (.int .i64 (((i+r):Nat):Int)) 39 (hS _ _ hI) ?_;go_frame;refine d7 6 13 (.pointer (some ⟨gb,0+(i+r),none⟩)) 40 rfl rfl (Rg.aJ cw _ _ rfl rfl gb (0) (t) t ((i+r)) rfl rfl vS) (hS _ _ hI) ?_;go_frame;refine i8 7 13 (.int .i64 (((y.getD (i+r) 0):Nat):Int)) 41 rfl rfl (j0 ⟨gb,0+(i+r),none⟩ (fun W hW=>ah (by rw [Nat.zero_add]; exact hW.2))) (hS _ _ hI) ?_;go_frame;refine d8 8 13 (.slice (some ⟨gb,0,none⟩) t t) 42 (hS _ _ hI) ?_;go_frame;refine d8 9 13 (.int .i64 ((i:Nat):Int)) 43 (hS _ _ hI) ?_;go_frame;refine d7 10 13 (.pointer (some ⟨gb,0+i,none⟩)) 44 rfl rfl (Rg.aJ cw _ _ rfl rfl gb (0) (t) t (i) rfl rfl ly) (hS _ _ hI) ?_;go_frame;refine i8 11 13 (.int .i64 (((y.getD i 0):Nat):Int)) 45 rfl rfl (j0 ⟨gb,0+i,none⟩ (fun W hW=>ah (by rw [Nat.zero_add]; exact hW.1))) (hS _ _ hI) ?_;go_frame
    refine d7 12 13 (.pointer (some ⟨gb,0+i,none⟩)) 46 rfl rfl (Rg.aJ cw _ _ rfl rfl gb (0) (t) t (i) rfl rfl ly) (hS _ _ hI) ?_;go_frame;refine Rg.Any.one (i:=13) (by kernel_rfl) (Rg.Any.cC none rfl rfl rfl (Rg.ai _ _ _ rfl _ rfl _ rfl (cy _ (by rw [Nat.zero_add]; exact PR.p.2.1 i ly) (PR.p.2.2 _))) (bT _ _ rfl) ?_);go_frame;refine d7 14 13 (.pointer (some ⟨gb,0+(i+r),none⟩)) 47 rfl rfl (Rg.aJ cw _ _ rfl rfl gb (0) (t) t ((i+r)) rfl rfl vS) (bT _ _ rfl) ?_;go_frame;obtain ⟨u2,F7⟩:∃ u,(rf.setCell ⟨gb,0+i,none⟩ (.int .i64 ((y.getD (i+r) 0:Nat):Int))).cell? ⟨gb,0+(i+r),none⟩=some u:=⟨_,by rw [Nat.zero_add,Nat.zero_add]; exact (cL.set PR.p i _ ly).2.1 (i+r) vS⟩;refine Rg.Any.one (i:=15) (by kernel_rfl) (Rg.Any.cC none rfl rfl rfl (Rg.ai _ _ _ rfl _ rfl _ rfl (cy _ F7 (by rw [World.frozen?_setCell]; exact PR.p.2.2 _))) (bT _ _ rfl) ?_)
    go_frame;refine Rg.Any.done (by kernel_rfl) ?_ _;clear bT;clear hS hI;have PT:=PR.p.swap ly vS;have C9:=(K.p.setCell (p:=⟨gb,i,none⟩) Jz.p (.int .i64 ((y.getD (i+r) 0:Nat):Int))).setCell (p:=⟨gb,i+r,none⟩) Jz.p (.int .i64 ((y.getD i 0:Nat):Int));have e0:0+i=i:=Nat.zero_add i;have e1:0+(i+r)=i+r:=Nat.zero_add _;rw [e0,e1];generalize (rf.setCell ⟨gb,i,none⟩ (.int .i64 ((y.getD (i+r) 0:Nat):Int))).setCell ⟨gb,i+r,none⟩ (.int .i64 ((y.getD i 0:Nat):Int))=ep at *;have WJ:=U PT;have On:=U (K_ GY.p ly vS);have K3:=U C9;clear PT C9 e0 e1 PR K;go_upto_region 8 with (fail);refine c6 ?_;refine d5 23 (.int .i64 ((i:Nat):Int)) ?_;go_frame;refine d4 24 (i3 (.int .i64 (((i+1):Nat):Int)) .add (h:=cg _ (by omega) (by omega))) ?_;go_frame;refine d6 7 (.int .i64 (((i+1):Nat):Int)) ?_;go_frame
    go_wp2
    go_roundw
    case rel=>exact ⟨i+1,_,by go_num,ly,WJ,On,K3⟩
    case measure=>simp [intOf]; omega
theorem ph (hN:N<=64) (gv lv:Value) (g s:List Nat) (w:World) (h':Rg.NP w gv g) (h:Rg.Ints w lv (Ma.af s)) (hs:∀ y∈s,y<N) (hl:s.length<=100000) (gg:Gd N g) :
  Calls Tryz.prog 37 #[gv,lv] w fun e w'=>∃ v,e=.returned v/\eX w.heap.size w' v (Ma.af (s.map (ap g)))/\Below w.heap.size w w':=by
 obtain ⟨n,la,lc,hn,rfl,-⟩:=h.len;rw [Ma.az] at hn;subst hn;obtain ⟨n,ga,gc,hn,rfl,-⟩:=Rg.Ints.len h';rw [Ma.az,gg.2] at hn;subst hn;have NS:=U (dm.mk h);have NG:=U (dm.mk h');have HS:=U hs;have GG:=U gg;have K:=U (Below.refl w.heap.size w);clear h h' hs gg
 go_enter Tryz.func37,Tryz.ntmps37
 go_upto_region 0 with (fail);refine c6 ?_;refine d6 4 (.slice none 0 0) ?_;go_frame;go_upto_region 1 with (fail);refine c6 ?_;refine d6 5 (.slice none 0 0) ?_;go_frame;go_upto_region 2 with (fail);refine c6 ?_;refine d6 6 (.int .i64 ((0:Nat):Int)) ?_;go_frame;have RO:=U (eX.nil w.heap.size w);go_wp2
 go_loopw [5,6] (fun ov iv wr=>∃ k:Nat,iv=.int .i64 ((k:Nat):Int)/\k<=s.length/\Hid (eX w.heap.size wr ov (Ma.af ((s.take k).map (ap g))))/\Hid (Below w.heap.size w wr)) (fun _ iv _=>s.length - (intOf iv).toNat)
 case atStart=>exact ⟨0,rfl,Nat.zero_le _,RO,K⟩
 case round =>
  clear RO;obtain ⟨k,rfl,hk,RO,KR⟩:=hrel;generalize wr=wA at *;replace NS:=U (NS.p.jj KR.p);replace NG:=U (NG.p.jj KR.p);obtain ⟨oa,oc,gG⟩:=RO.p.shape;rw [Ma.az,List.length_map,List.length_take,Nat.min_eq_left hk] at gG;subst gG
  by_cases aB:k<s.length
  case neg =>
   obtain rfl:k=s.length:=by omega
   go_upto_region 3 with (fail);refine c6 ?_;refine d5 7 (.int .i64 ((s.length:Nat):Int)) ?_;go_frame;refine d5 8 (.slice la s.length lc) ?_;go_frame;refine d4 9 (i4 Tryz.underlying26) ?_;go_frame;refine d4 10 (i3 (.bool false) .lss (h:=bj _ g7)) ?_;go_frame;go_upto_region 6 with (fail);refine c6 ?_;refine d5 23 (.slice oa s.length oc) ?_;go_frame;refine d6 4 (.slice oa s.length oc) ?_;go_frame;have HX:=U (show eX w.heap.size wA (.slice oa s.length oc) (Ma.af (s.map (ap g))) by have:=RO.p; rwa [List.take_length] at this);clear RO NS NG;go_wp2;go_ret;exact ⟨_,rfl,HX.p,KR.p⟩
  case pos =>
   have nS:k<100000:=by omega
   obtain ⟨lb,lo,_,e1,ud⟩:=NS.p.at (M:=s) rfl (by omega);simp only [Value.slice.injEq,true_and] at e1;obtain ⟨rfl,rfl⟩:=e1;obtain ⟨gb,DG,_,e1,yr⟩:=NG.p.at (M:=g) GG.p.2 (by have:=HS.p _ (List.getElem_mem aB); omega);simp only [Value.slice.injEq,true_and] at e1;obtain ⟨rfl,rfl⟩:=e1;obtain ⟨x,hx⟩:∃ x,Hid (s[k]=x):=⟨_,U rfl⟩;have AD:=U (show x<N from hx.p▸HS.p _ (List.getElem_mem aB))
   have CS:=U (show CL wA lb (lo+k) (.int .i64 ((x:Nat):Int)) by
    have:=ud k aB
    rwa [List.getD_eq_getElem?_getD,List.getElem?_eq_getElem aB,Option.getD_some,hx.p] at this)
   obtain ⟨y,hy⟩:∃ y,Hid (ap g x=y):=⟨_,U rfl⟩;have CG:=U (show CL wA gb (DG+x) (.int .i64 ((y:Nat):Int)) from hy.p▸yr x AD.p);clear ud yr;have qG:=U (show (Ma.af ((s.take k).map (ap g))).length=k by rw [Ma.az,List.length_map,List.length_take,Nat.min_eq_left hk]);go_upto_region 3 with (fail);refine c6 ?_;refine d5 7 (.int .i64 ((k:Nat):Int)) ?_;go_frame;refine d5 8 (.slice (some ⟨lb,lo,none⟩) s.length lc) ?_;go_frame;refine d4 9 (i4 Tryz.underlying26) ?_;go_frame;refine d4 10 (i3 (.bool true) .lss (h:=bj _ f9)) ?_;go_frame;go_upto_region 5 with (fail);refine c6 ?_;refine d5 13 (.slice oa k oc) ?_;go_frame;refine d5 14 (.slice (some ⟨gb,DG,none⟩) N gc) ?_;go_frame;refine d5 15 (.slice (some ⟨lb,lo,none⟩) s.length lc) ?_;go_frame;refine d5 16 (.int .i64 ((k:Nat):Int)) ?_;go_frame;refine d4 17 (aD cM _ _ rfl lb (lo) (s.length) lc (k) rfl rfl aB) ?_;go_frame
   refine d4 18 (g9 (.int .i64 ((x:Nat):Int)) ⟨lb,lo+k,none⟩ (ah CS.p.cell)) ?_;go_frame;refine d4 19 (aD cw _ _ rfl gb (DG) (N) gc (x) rfl rfl AD.p) ?_;go_frame;refine d4 20 (g9 (.int .i64 ((y:Nat):Int)) ⟨gb,DG+x,none⟩ (ah CG.p.cell)) ?_;go_frame;refine d4 21 (Rg.aN _ _ _ rfl (.int .i64 ((y:Nat):Int)) rfl (lK wA _)) ?_;go_frame;obtain ⟨a9,c9,X9,r1,r2,r3⟩:=RO.p.push KR.p.size ((y:Nat):Int) (by rw [qG.p]; omega) 26;rw [qG.p] at r1 r2;refine d4 22 (Rg.bF _ _ _ rfl rfl rfl r1) ?_;go_frame;refine d6 5 (.slice a9 (k+1) c9) ?_;go_frame;go_upto_region 4 with (fail);refine c6 ?_;refine d5 11 (.int .i64 ((k:Nat):Int)) ?_;go_frame;refine d4 12 (i3 (.int .i64 (((k+1):Nat):Int)) .add (h:=cg _ (by omega) (by omega))) ?_;go_frame;refine d6 6 (.int .i64 (((k+1):Nat):Int)) ?_;go_frame
   have yC:=U (show eX w.heap.size X9 (.slice a9 (k+1) c9) (Ma.af ((s.take (k+1)).map (ap g))) by
    rw [List.take_succ_eq_append_getElem aB,hx.p,List.map_append,List.map_singleton,hy.p];unfold Ma.af;rw [List.map_append]
    exact r2)
   have KX:=U (r3 (Nat.le_refl _) KR.p);clear r1 r2 r3 RO KR NS NG CS CG qG;go_wp2
   go_roundw
   case rel=>exact ⟨k+1,by go_num,aB,yC,KX⟩
   case measure=>simp [intOf]; omega
theorem Nx {s:List Nat} {i:Nat} (h:s.Pairwise (· < ·)) (hi:∀ y∈s,y<i):(s++[i]).Pairwise (· < ·)/\∀ y∈s++[i],y<i+1:=by
 refine ⟨List.pairwise_append.2 ⟨h,List.pairwise_singleton _ _,fun a ha b hb=>by rw [List.mem_singleton.1 hb]; exact hi a ha⟩,fun y hy=>?_⟩
 rcases List.mem_append.1 hy with hy | hy
 ·exact Nat.lt_succ_of_lt (hi y hy)
 ·rw [List.mem_singleton.1 hy]; exact Nat.lt_succ_self _
theorem A5 (hn:n<=64) (lv:Value) (l:List Int) (w:World) (h:Rg.cV maxLen w lv l) :
  Calls Tryz.prog 27 #[.int .i64 ((n:Nat):Int),lv] w fun e w'=>∃ v s,e=.returned v/\s.Pairwise (· < ·)/\(∀ y∈s,y<n)/\s.length<=n/\eX w.heap.size w' v (Ma.af s)/\Below w.heap.size w w':=by
 obtain ⟨la,lc,rfl,-⟩:=h.shape;have HL:=U (IB.mk h);have K:=U (Below.refl w.heap.size w);clear h
 go_enter Tryz.func27,Tryz.ntmps27
 go_upto_region 0 with (fail);refine c6 ?_;refine d6 4 (.slice none 0 0) ?_;go_frame;go_upto_region 1 with (fail);refine c6 ?_;refine d6 5 (.slice none 0 0) ?_;go_frame;go_upto_region 2 with (fail);refine c6 ?_;refine d6 6 (.int .i64 ((0:Nat):Int)) ?_;go_frame;have RO:=U (eX.nil w.heap.size w);have PW:=U (show ([]:List Nat).Pairwise (· < ·)/\(∀ y∈([]:List Nat),y<0)/\([]:List Nat).length<=0 from ⟨.nil,fun y hy=>by simp at hy,Nat.le_refl _⟩);go_wp2
 go_loopw [5,6] (fun ov iv wr=>∃ (k:Nat) (s:List Nat),iv=.int .i64 ((k:Nat):Int)/\k<=n/\Hid (s.Pairwise (· < ·)/\(∀ y∈s,y<k)/\s.length<=k)/\Hid (eX w.heap.size wr ov (Ma.af s))/\Hid (Below w.heap.size w wr)) (fun _ iv _=>n - (intOf iv).toNat)
 case atStart=>exact ⟨0,[],rfl,Nat.zero_le _,PW,RO,K⟩
 case round =>
  clear RO PW K;obtain ⟨k,s,rfl,hk,PW,RO,K⟩:=hrel;generalize wr=wA at *;obtain ⟨oa,oc,gG⟩:=RO.p.shape;rw [Ma.az] at gG;subst gG;have qG:=U (Ma.az s)
  by_cases aB:k<n
  case neg =>
   obtain rfl:k=n:=by omega
   go_upto_region 3 with (fail);refine c6 ?_;refine d5 7 (.int .i64 ((k:Nat):Int)) ?_;go_frame;refine d5 8 (.int .i64 ((k:Nat):Int)) ?_;go_frame;refine d4 9 (i3 (.bool false) .lss (h:=bj _ g7)) ?_;go_frame;go_upto_region 7 with (fail);refine c6 ?_;refine d5 21 (.slice oa s.length oc) ?_;go_frame;refine d6 4 (.slice oa s.length oc) ?_;go_frame;go_wp2;go_ret;exact ⟨_,s,rfl,PW.p.1,PW.p.2.1,PW.p.2.2,RO.p,K.p⟩
  case pos =>
   skip
   go_upto_region 3 with (fail);refine c6 ?_;refine d5 7 (.int .i64 ((k:Nat):Int)) ?_;go_frame;refine d5 8 (.int .i64 ((n:Nat):Int)) ?_;go_frame;refine d4 9 (i3 (.bool true) .lss (h:=bj _ f9)) ?_;go_frame;go_upto_region 5 with (fail);refine c6 ?_;refine d5 12 (.slice la l.length lc) ?_;go_frame;refine d5 13 (.int .i64 ((k:Nat):Int)) ?_;go_frame;refine f8 14 (aj 29 _ _ _ rfl rfl rfl (RL _ _)) ?_;refine (uH _ l k wA (HL.p.jj K.p).i (by omega)).mono ?_;rintro e1 c_ ⟨z,rfl,hb⟩;refine ⟨_,rfl,?_⟩;go_frame;replace RO:=U (RO.p.jj hb);replace K:=U (Rg.acc K.p hb);clear hb;refine f8 15 (aj 28 _ _ _ rfl rfl rfl (J_ _ _)) ?_;refine (qP z 2 c_ (by omega) (by omega)).mono ?_;rintro e1 fT ⟨r,rfl,hr,hb⟩;have HR:=U hr;clear hr;obtain ⟨b,eB⟩:∃ b,Hid (decide (((r:Nat):Int)=((1:Nat):Int))=b):=⟨_,U rfl⟩
   refine ⟨_,rfl,?_⟩;go_frame;replace RO:=U (RO.p.jj hb);replace K:=U (Rg.acc K.p hb);clear hb;refine d4 16 (i3 (.bool b) .eql (h:=iN _ eB.p)) ?_;go_frame
   cases b
   case true =>
    skip
    go_upto_region 6 with (fail);refine c6 ?_;refine d5 17 (.slice oa s.length oc) ?_;go_frame;refine d5 18 (.int .i64 ((k:Nat):Int)) ?_;go_frame;refine d4 19 (Rg.aN _ _ _ rfl (.int .i64 ((k:Nat):Int)) rfl (lK fT _)) ?_;go_frame;obtain ⟨a9,c9,X9,r1,r2,r3⟩:=RO.p.push K.p.size ((k:Nat):Int) (by rw [qG.p]; have:=PW.p.2.2; omega) 26;rw [qG.p] at r1 r2;refine d4 20 (Rg.bF _ _ _ rfl rfl rfl r1) ?_;go_frame;refine d6 5 (.slice a9 (s.length+1) c9) ?_;go_frame;go_upto_region 4 with (fail);refine c6 ?_;refine d5 10 (.int .i64 ((k:Nat):Int)) ?_;go_frame;refine d4 11 (i3 (.int .i64 (((k+1):Nat):Int)) .add (h:=cg _ (by omega) (by omega))) ?_;go_frame;refine d6 6 (.int .i64 (((k+1):Nat):Int)) ?_;go_frame
    have yC:=U (show eX w.heap.size X9 (.slice a9 (s.length+1) c9) (Ma.af (s++[k])) by
     unfold Ma.af;rw [List.map_append]
     exact r2)
    have KX:=U (r3 (Nat.le_refl _) K.p);have D1:=Nx PW.p.1 PW.p.2.1;have X8:=U (show (s++[k]).Pairwise (· < ·)/\(∀ y∈s++[k],y<k+1)/\(s++[k]).length<=k+1 from ⟨D1.1,D1.2,by have:=PW.p.2.2; simp; omega⟩);clear r1 r2 r3 RO K qG D1;go_wp2
    go_roundw
    case rel=>exact ⟨k+1,_,by go_num,aB,X8,yC,KX⟩
    case measure=>simp [intOf]; omega
   case false =>
    skip
    go_upto_region 4 with (fail);refine c6 ?_;refine d5 10 (.int .i64 ((k:Nat):Int)) ?_;go_frame;refine d4 11 (i3 (.int .i64 (((k+1):Nat):Int)) .add (h:=cg _ (by omega) (by omega))) ?_;go_frame;refine d6 6 (.int .i64 (((k+1):Nat):Int)) ?_;go_frame;have X8:=U (show s.Pairwise (· < ·)/\(∀ y∈s,y<k+1)/\s.length<=k+1 from ⟨PW.p.1,fun y hy=>Nat.lt_succ_of_lt (PW.p.2.1 y hy),Nat.le_succ_of_le PW.p.2.2⟩);go_wp2
    go_roundw
    case rel=>exact ⟨k+1,_,by go_num,aB,X8,RO,K⟩
    case measure=>simp [intOf]; omega

theorem cO.cG {l:List (List Nat)} (h:cO B F M W v l) (hb:Below W.heap.size W W'):cO B F M W' v l:=h.kp (N:=fun _=>False) (Rg.Kp.aC hb) (fun _ _=>id) (fun _ _=>id)
theorem Ca {b:Nat} {x y z:Value} (hb:Below w.heap.size w W) (hle:w.heap.size<=b):Below w.heap.size w (((W.setCell ⟨b,0,none⟩ x).setCell ⟨b,1,none⟩ y).setCell ⟨b,2,none⟩ z):=((hb.setCell (p:=⟨b,0,none⟩) hle x).setCell (p:=⟨b,1,none⟩) hle y).setCell (p:=⟨b,2,none⟩) hle z

theorem X_ (args:Array Value) (w:World):(callFunc 64 args).run Tryz.prog w=.ok (.enter 64 args) w:=by kernel_rfl
theorem Ya (args:Array Value) (w:World):(callFunc 65 args).run Tryz.prog w=.ok (.enter 65 args) w:=by kernel_rfl
theorem Ka (args:Array Value) (w:World):(callFunc 35 args).run Tryz.prog w=.ok (.enter 35 args) w:=by kernel_rfl
structure Gq (W:World) (b:Nat) (x y:Value):Prop where
 c0:W.cell? ⟨b,0,none⟩=some x
 c1:W.cell? ⟨b,1,none⟩=some y
 f0:W.frozen? ⟨b,0,none⟩=false
 f1:W.frozen? ⟨b,1,none⟩=false
 lt:b<W.heap.size
theorem Gq.new (w:World) (x y:Value) (t:TypeId):Gq (w.alloc (.cells #[x,y] t)) w.heap.size x y :=
 ⟨by rw [Rg.aL]; rfl,by rw [Rg.aL]; rfl,cA _ _ _ 0 _,cA _ _ _ 0 _,by simp⟩
theorem Gq.kp {b:Nat} {x y:Value} (h:Gq W b x y) (hk:Rg.Kp M W W') (hM:¬ M b):Gq W' b x y:=by
 have hb:=hk.block b h.lt hM;exact ⟨(World.cell?_of_block (a:=⟨b,0,none⟩) hb).trans h.c0,(World.cell?_of_block (a:=⟨b,1,none⟩) hb).trans h.c1,(World.frozen?_of_block (a:=⟨b,0,none⟩) hb).trans h.f0,(World.frozen?_of_block (a:=⟨b,1,none⟩) hb).trans h.f1,Nat.lt_of_lt_of_le h.lt hk.size⟩
theorem Gq.jj {b:Nat} {x y:Value} (h:Gq W b x y) (hb:Below W.heap.size W W'):Gq W' b x y:=h.kp (M:=fun _=>False) (Rg.Kp.aC hb) id
theorem Gq.set {b:Nat} {x y:Value} (h:Gq W b x y) (u v:Value):Gq ((W.setCell ⟨b,0,none⟩ u).setCell ⟨b,1,none⟩ v) b u v:=by
 obtain ⟨g1,g2,-⟩:=x7 (w:=W) u v h.c0 h.c1 (Below.refl 0 W) (Nat.zero_le _);exact ⟨g1,g2,by rw [World.frozen?_setCell,World.frozen?_setCell]; exact h.f0,by rw [World.frozen?_setCell,World.frozen?_setCell]; exact h.f1,by simpa using h.lt⟩
theorem qQ (W:World) (b:Nat) (x y:Value):Rg.Kp (fun k=>k=b) W ((W.setCell ⟨b,0,none⟩ x).setCell ⟨b,1,none⟩ y):=by
 have k1:Rg.Kp (fun k=>k=b) W (W.setCell ⟨b,0,none⟩ x):=Rg.Kp.aO rfl;have k2:Rg.Kp (fun k=>k=b) (W.setCell ⟨b,0,none⟩ x) ((W.setCell ⟨b,0,none⟩ x).setCell ⟨b,1,none⟩ y):=Rg.Kp.aO rfl;exact Rg.Kp.trans k1 k2 (fun _ _ e=>e)
structure Kb (B:Nat) (W:World) (v:Value) (ll:List (List Int)):Prop where
 f:Rg.aG (fun z=>B<=z) W v ll
theorem Kb.kp {B:Nat} {M:Nat->Prop} {W W':World} {v:Value} {ll:List (List Int)} (h:Kb B W v ll) (hk:Rg.Kp M W W') (hM:∀ z,M z->z<B):Kb B W' v ll:=⟨h.f.kp hk fun z hz e=>by have:=hM z e; omega⟩
theorem Kb.jj (h:Kb B W v ll) (hb:Below W.heap.size W W'):Kb B W' v ll:=h.kp (M:=fun _=>False) (Rg.Kp.aC hb) (fun _=>False.elim)
structure D2 (B:Nat) (W:World) (ov rv:Value) (OO:List (List Int)) (RR:List (List (List Int))):Prop where
 o:Rg.aG (fun z=>B<=z) W ov OO
 r:bg (fun z=>B<=z) W rv RR
theorem D2.kp {B:Nat} {M:Nat->Prop} {W W':World} {ov rv:Value} {OO:List (List Int)} {RR:List (List (List Int))} (h:D2 B W ov rv OO RR) (hk:Rg.Kp M W W') (hM:∀ z,M z->z<B):D2 B W' ov rv OO RR:=⟨h.o.kp hk fun z hz e=>by have:=hM z e; omega,h.r.kp hk fun z hz e=>by have:=hM z e; omega⟩
theorem D2.jj (h:D2 B W ov rv OO RR) (hb:Below W.heap.size W W'):D2 B W' ov rv OO RR:=h.kp (M:=fun _=>False) (Rg.Kp.aC hb) (fun _=>False.elim)
theorem D2.r' (h:D2 B W ov rv OO RR):aW W ov rv OO RR:=⟨aG.rows h.o,bg.rows h.r⟩
theorem dN.ou {d:Nat} {cv:Value} (h:dN B W ((d:Nat):Int) (gs.map Ma.af) cv 0):∃ oa on oc ra rn rc O R,cv=.agg #[.int .i64 ((d:Nat):Int),.slice oa on oc,.slice ra rn rc]/\D2 B W (.slice oa on oc) (.slice ra rn rc) (O.map Ma.af) (R.map (List.map Ma.af))/\ak d (Gr d (·∈gs)) O R:=by
 rcases h with ⟨h0,_⟩ | ⟨_,n,gs',h1,h2,_,_,ov,rv,O,R,rfl,h3,h4,h5⟩
 ·exact absurd rfl h0
 ·obtain rfl:d=n:=by omega
  have:=dh h2;subst this;obtain ⟨oa,oc,rfl,-⟩:=(aG.rows h3).shape;obtain ⟨ra,rc,rfl⟩:=(bg.rows h4).shape;exact ⟨_,_,_,_,_,_,O,R,rfl,⟨h3,h4⟩,h5⟩
structure Hu (b5 b6:Nat) (x y c0 c1 c2:Value) (W:World):Prop where
 g:Gq W b5 x y
 t:bM W b6 c0 c1 c2
theorem Hu.set {b b5 b6:Nat} {x y c0 c1 c2:Value} (h:Hu b5 b6 x y c0 c1 c2 W) (u v:Value) (h5:b<b5) (h6:b<b6):Hu b5 b6 x y c0 c1 c2 ((W.setCell ⟨b,0,none⟩ u).setCell ⟨b,1,none⟩ v) :=
 ⟨h.g.kp (qQ W b u v) (fun e=>by omega),h.t.kp (qQ W b u v) (fun e=>by omega)⟩
theorem D3 {fn:Func} {p q u:Go.Tmp} (h:fn.results=#[.cell p 43,.cell q 25,.tmp u]) (tmps:Array Value) {b1 b2:Nat} {x y a b c:Value} (hp:tmps.getD p undef=.pointer (some ⟨b1,0,none⟩)) (hq:tmps.getD q undef=.pointer (some ⟨b2,0,none⟩)) (hu:tmps.getD u undef=v)
  (h1:Gq w b1 x y) (h2:bM w b2 a b c):(results fn tmps).run Tryz.prog w=.ok (.tuple #[.agg #[x,y],.agg #[a,b,c],v]) w:=by
 have uX:tmps[p]?.getD undef=.pointer (some ⟨b1,0,none⟩):=by simpa using hp
 have L6:tmps[q]?.getD undef=.pointer (some ⟨b2,0,none⟩):=by simpa using hq
 have fR:tmps[u]?.getD undef=v:=by simpa using hu
 have e1:=fS h1.c0 h1.c1;have e2:=oI h2;simp [results,h,uX,L6,fR,asAddr,e1,e2,Result.andThen]
def Hv (w:World) (e:Ending) (w':World):Prop:=∃ (d:Nat) (ga:Option Addr) (gn gc:Nat) (oa:Option Addr) (on oc:Nat) (ra:Option Addr) (rn rc:Nat) (gs:List (List Nat)) (O:List (List Nat)) (R:List (List (List Nat))),e=.returned (.tuple #[.agg #[.int .i64 ((d:Nat):Int),.slice ga gn gc],.agg #[.int .i64 ((d:Nat):Int),.slice oa on oc,.slice ra rn rc],.int .i64 0])/\(1<=d/\d<=6)/\(gs.length<=3/\∀ s∈gs,Gd d s)/\Rg.Rows w' (.slice ga gn gc) (gs.map Ma.af)/\aW w' (.slice oa on oc) (.slice ra rn rc) (O.map Ma.af) (R.map (List.map Ma.af))/\ak d (Gr d (·∈gs)) O R/\Below w.heap.size w w'
theorem uI (lv:Value) (l:List Int) (w:World) (h:Rg.cV maxLen w lv l):Calls Tryz.prog 25 #[lv] w (Hv w):=by
 obtain ⟨la,lc,rfl,-⟩:=h.shape;have HL:=U (IB.mk h);have K:=U (Below.refl w.heap.size w);clear h
 go_enter Tryz.func25,Tryz.ntmps25
 go_upto_region 0 with (fail);refine c6 ?_;have zT:=Gq.new w (.int .i64 0) (.slice none 0 0) 43;refine d4 2 (ir rfl) ?_;go_frame;have hb:=(Below.refl w.heap.size w).alloc (Nat.le_refl _) (.cells #[.int .i64 0,.slice none 0 0] 43);generalize w.alloc (.cells #[.int .i64 0,.slice none 0 0] 43)=w1 at *;replace HL:=U (HL.p.jj hb);replace K:=U (Rg.acc K.p hb);clear hb;have R2:=U zT;clear zT;have Hw:=U R2.p.lt;have bX:=bM.new w1 (.int .i64 0) (.slice none 0 0) (.slice none 0 0);refine d4 3 (aU rfl) ?_;go_frame;have hb:=(Below.refl w1.heap.size w1).alloc (Nat.le_refl _) (.cells #[.int .i64 0,.slice none 0 0,.slice none 0 0] 25);generalize w1.alloc (.cells #[.int .i64 0,.slice none 0 0,.slice none 0 0] 25)=w2 at *;replace HL:=U (HL.p.jj hb);replace R2:=U (R2.p.jj hb);replace K:=U (Rg.acc K.p hb);clear hb;have R3:=U bX
 clear bX;refine d6 4 (.int .i64 ((0:Nat):Int)) ?_;go_frame;go_upto_region 1 with (fail);refine c6 ?_;refine d5 8 (.slice la l.length lc) ?_;go_frame;have HB1:=U R3.p.lt;refine f8 9 (aj 64 _ _ _ rfl rfl rfl (X_ _ _)) ?_;refine (Jp _ l 6 w2 HL.p.i (by decide) (by decide)).mono ?_;rintro e1 w3 ⟨d,gv,gs,rfl,dy,nr,iy,iP,vD,hb⟩;obtain ⟨ga,gc,rfl,-⟩:=(aG.rows vD).shape;obtain ⟨gn,q_⟩:∃ n,Hid ((gs.map Ma.af).length=n):=⟨_,U rfl⟩;rw [q_.p] at vD ⊢;have HD:=U (show 1<=d/\d<=6 from ⟨dy,nr⟩);have rm:=U (show gs.length<=3/\∀ s∈gs,Gd d s from ⟨iy,iP⟩);have ui:=U (JO (gs:=gs) dy (by omega) (by omega) iP);clear dy nr iy iP;refine ⟨_,rfl,?_⟩;go_frame;replace HL:=U (HL.p.jj hb);replace R2:=U (R2.p.jj hb);replace R3:=U (R3.p.jj hb);replace K:=U (Rg.acc K.p hb);clear hb
 have HG:=U (Kb.mk vD);have aaA:=U R2.p.lt;have aaV:=U R3.p.lt;refine d4 5 (ir rfl) ?_;go_frame;refine Rg.aA none rfl rfl (Rg.ai _ _ _ rfl _ rfl _ rfl (gT _ _ _ _ (Gq.new w3 (.int .i64 0) (.slice none 0 0) 43).c0 (Gq.new w3 (.int .i64 0) (.slice none 0 0) 43).c1 (Gq.new w3 (.int .i64 0) (.slice none 0 0) 43).f0 (Gq.new w3 (.int .i64 0) (.slice none 0 0) 43).f1)) ?_;go_frame;have htg:=(Gq.new w3 (.int .i64 0) (.slice none 0 0) 43).set (.int .i64 ((d:Nat):Int)) (.slice ga gn gc);have hb:=(((Below.refl w3.heap.size w3).alloc (Nat.le_refl _) (.cells #[.int .i64 0,.slice none 0 0] 43)).setCell (p:=⟨w3.heap.size,0,none⟩) (Nat.le_refl _) (.int .i64 ((d:Nat):Int))).setCell (p:=⟨w3.heap.size,1,none⟩) (Nat.le_refl _) (.slice ga gn gc);generalize ((w3.alloc (.cells #[.int .i64 0,.slice none 0 0] 43)).setCell ⟨w3.heap.size,0,none⟩ (.int .i64 ((d:Nat):Int))).setCell ⟨w3.heap.size,1,none⟩ (.slice ga gn gc)=w4 at *
 replace HL:=U (HL.p.jj hb);replace R2:=U (R2.p.jj hb);replace R3:=U (R3.p.jj hb);replace HG:=U (HG.p.jj hb);replace K:=U (Rg.acc K.p hb);clear hb;have G5:=U htg;clear htg;clear vD;go_upto_region 2 with (fail);refine c6 ?_;refine d4 11 (g9 (.agg #[.int .i64 ((d:Nat):Int),.slice ga gn gc]) ⟨w3.heap.size,0,none⟩ (fS G5.p.c0 G5.p.c1)) ?_;go_frame;have rq:=U R3.p.lt;refine f8 12 (aE 65 _ _ rfl rfl (Ya _ _)) ?_;refine (Uf _ _ (gs.map Ma.af) w4 (aG.rows HG.p.f)).mono ?_;rintro e1 w5 ⟨cv,rfl,hcv,hb⟩;rw [ui.p] at hcv ⊢;obtain ⟨oa,on,oc,ra,rn,rc,O,R,rfl,hcf,cQ⟩:=hcv.ou;have dE:=U cQ;clear cQ hcv;refine ⟨_,rfl,?_⟩;go_frame;replace HL:=U (HL.p.jj hb);replace R2:=U (R2.p.jj hb);replace R3:=U (R3.p.jj hb);replace HG:=U (HG.p.jj hb);replace G5:=U (G5.p.jj hb)
 replace K:=U (Rg.acc K.p hb);clear hb;have HC:=U hcf;refine d5 10 (.tuple #[(.agg #[.int .i64 ((d:Nat):Int),.slice oa on oc,.slice ra rn rc]),.int .i64 0]) ?_;go_frame;refine d4 13 (i7 ((.agg #[.int .i64 ((d:Nat):Int),.slice oa on oc,.slice ra rn rc]))) ?_;go_frame;refine d4 14 (i7 (.int .i64 0)) ?_;go_frame;have aaB:=U R2.p.lt;have aaW:=U R3.p.lt;refine d4 6 (aU rfl) ?_;go_frame;refine Rg.aA none rfl rfl (Rg.ai _ _ _ rfl _ rfl _ rfl (aM _ _ _ _ _ _ _ (bM.new w5 (.int .i64 0) (.slice none 0 0) (.slice none 0 0)))) ?_;go_frame;have eA:=(bM.new w5 (.int .i64 0) (.slice none 0 0) (.slice none 0 0)).set (.int .i64 ((d:Nat):Int)) (.slice oa on oc) (.slice ra rn rc);have hb:=((((Below.refl w5.heap.size w5).alloc (Nat.le_refl _) (.cells #[.int .i64 0,.slice none 0 0,.slice none 0 0] 25)).setCell (p:=⟨w5.heap.size,0,none⟩) (Nat.le_refl _) (.int .i64 ((d:Nat):Int))).setCell (p:=⟨w5.heap.size,1,none⟩) (Nat.le_refl _) (.slice oa on oc)).setCell (p:=⟨w5.heap.size,2,none⟩) (Nat.le_refl _) (.slice ra rn rc)
 generalize (((w5.alloc (.cells #[.int .i64 0,.slice none 0 0,.slice none 0 0] 25)).setCell ⟨w5.heap.size,0,none⟩ (.int .i64 ((d:Nat):Int))).setCell ⟨w5.heap.size,1,none⟩ (.slice oa on oc)).setCell ⟨w5.heap.size,2,none⟩ (.slice ra rn rc)=w6 at *;replace HL:=U (HL.p.jj hb);replace R2:=U (R2.p.jj hb);replace R3:=U (R3.p.jj hb);replace HG:=U (HG.p.jj hb);replace G5:=U (G5.p.jj hb);replace HC:=U (HC.p.jj hb);replace K:=U (Rg.acc K.p hb);clear hb;have T6:=U eA;clear eA;refine d6 7 (.int .i64 0) ?_;go_frame;clear hcf;have Aj:=U (show w.heap.size<=w1.heap.size from Nat.le_of_lt Hw.p);go_upto_region 3 with (fail);have eH:Below w6.heap.size w6 w6.drew:=(Below.refl _ _).drew;replace R2:=U (R2.p.jj eH);replace R3:=U (R3.p.jj eH);replace G5:=U (G5.p.jj eH);replace T6:=U (T6.p.jj eH);replace HG:=U (HG.p.jj eH)
 replace HC:=U (HC.p.jj eH);replace K:=U (Rg.acc K.p eH);clear eH;have aw:Below w6.heap.size w6 w6.drew:=(Below.refl _ _).drew;generalize dS (fun _:Nat=>True) w6 w6.drew=F1 at *;clear aw;refine Rg.Any.begin (S:=Rg.aI 4 (fun W:World=>Hu w3.heap.size w5.heap.size (.int .i64 ((d:Nat):Int)) (.slice ga gn gc) (.int .i64 ((d:Nat):Int)) (.slice oa on oc) (.slice ra rn rc) W) (fun _=>True)) mix ?_;generalize w6.drew=w7 at *;have hS:∀ (l:Array Bool) W,(fun W:World=>Hu w3.heap.size w5.heap.size (.int .i64 ((d:Nat):Int)) (.slice ga gn gc) (.int .i64 ((d:Nat):Int)) (.slice oa on oc) (.slice ra rn rc) W) W->Rg.aI 4 (fun W:World=>Hu w3.heap.size w5.heap.size (.int .i64 ((d:Nat):Int)) (.slice ga gn gc) (.int .i64 ((d:Nat):Int)) (.slice oa on oc) (.slice ra rn rc) W) (fun _=>True) l W:=fun l W h=>⟨.inr h,trivial⟩;have bT:∀ (l:Array Bool) W,l.getD 4 false=true->Rg.aI 4 (fun W:World=>Hu w3.heap.size w5.heap.size (.int .i64 ((d:Nat):Int)) (.slice ga gn gc) (.int .i64 ((d:Nat):Int)) (.slice oa on oc) (.slice ra rn rc) W) (fun _=>True) l W:=fun l W h=>⟨.inl h,trivial⟩
 have hI:(fun W:World=>Hu w3.heap.size w5.heap.size (.int .i64 ((d:Nat):Int)) (.slice ga gn gc) (.int .i64 ((d:Nat):Int)) (.slice oa on oc) (.slice ra rn rc) W) w7:=⟨G5.p,T6.p⟩;refine i8 0 4 (.agg #[.int .i64 ((d:Nat):Int),.slice ga gn gc]) 15 rfl rfl (j0 ⟨w3.heap.size,0,none⟩ (fun W hW=>fS hW.g.c0 hW.g.c1)) (hS _ _ hI) ?_;go_frame;refine i8 1 4 ((.agg #[.int .i64 ((d:Nat):Int),.slice oa on oc,.slice ra rn rc])) 16 rfl rfl (j0 ⟨w5.heap.size,0,none⟩ (fun W hW=>aq hW.t.c0 hW.t.c1 hW.t.c2)) (hS _ _ hI) ?_;go_frame;refine d8 2 4 (.int .i64 0) 17 (hS _ _ hI) ?_;go_frame;have CA:=(hI.set (b:=w.heap.size) (.int .i64 ((d:Nat):Int)) (.slice ga gn gc) aaA.p aaB.p);refine Rg.Any.one (i:=3) (by kernel_rfl) (Rg.Any.cC none rfl rfl rfl (Rg.ai _ _ _ rfl _ rfl _ rfl (gT _ _ _ _ R2.p.c0 R2.p.c1 R2.p.f0 R2.p.f1)) (hS _ _ CA) ?_)
 go_frame;have R39:=U (R3.p.kp (qQ w7 w.heap.size (.int .i64 ((d:Nat):Int)) (.slice ga gn gc)) (fun e=>Nat.lt_irrefl _ (e▸Hw.p)));refine Rg.Any.one (i:=4) (by kernel_rfl) (Rg.Any.cC none rfl rfl rfl (Rg.ai _ _ _ rfl _ rfl _ rfl (aM _ _ _ _ _ _ _ R39.p)) (bT _ _ rfl) ?_);go_frame;refine d7 5 4 (.int .i64 0) 4 rfl rfl (.inl ⟨rfl,fun w _=>Rg.bw (v:=.int .i64 0) _ rfl rfl⟩) (bT _ _ rfl) ?_;go_frame;refine Rg.Any.done (by kernel_rfl) ?_ _;clear bT;clear hS CA;have k1:=qQ w7 w.heap.size (.int .i64 ((d:Nat):Int)) (.slice ga gn gc);have k2:=eN ((w7.setCell ⟨w.heap.size,0,none⟩ (.int .i64 ((d:Nat):Int))).setCell ⟨w.heap.size,1,none⟩ (.slice ga gn gc)) w1.heap.size (.int .i64 ((d:Nat):Int)) (.slice oa on oc) (.slice ra rn rc);have q2:=(R2.p.set (.int .i64 ((d:Nat):Int)) (.slice ga gn gc)).kp k2 (fun e=>Nat.lt_irrefl _ (e▸Hw.p))
 have q3:=R39.p.set (.int .i64 ((d:Nat):Int)) (.slice oa on oc) (.slice ra rn rc);have qg:=(HG.p.kp k1 (fun z e=>by have:=HB1.p; have:=Hw.p; omega)).kp k2 (fun z e=>by have:=HB1.p; omega);have qc:=(HC.p.kp k1 (fun z e=>by have:=rq.p; have:=Hw.p; omega)).kp k2 (fun z e=>by have:=rq.p; omega);have qk:=Ca (x:=.int .i64 ((d:Nat):Int)) (y:=.slice oa on oc) (z:=.slice ra rn rc) ((K.p.setCell (p:=⟨w.heap.size,0,none⟩) (Nat.le_refl _) (.int .i64 ((d:Nat):Int))).setCell (p:=⟨w.heap.size,1,none⟩) (Nat.le_refl _) (.slice ga gn gc)) Aj.p;clear k1 k2;generalize ((((w7.setCell ⟨w.heap.size,0,none⟩ (.int .i64 ((d:Nat):Int))).setCell ⟨w.heap.size,1,none⟩ (.slice ga gn gc)).setCell ⟨w1.heap.size,0,none⟩ (.int .i64 ((d:Nat):Int))).setCell ⟨w1.heap.size,1,none⟩ (.slice oa on oc)).setCell ⟨w1.heap.size,2,none⟩ (.slice ra rn rc)=ep at *
 have nU:=U (show Hv w (.returned (.tuple #[.agg #[.int .i64 ((d:Nat):Int),.slice ga gn gc],.agg #[.int .i64 ((d:Nat):Int),.slice oa on oc,.slice ra rn rc],.int .i64 0])) ep from ⟨d,_,_,_,_,_,_,_,_,_,gs,O,R,rfl,HD.p,rm.p,aG.rows qg.f,qc.r',dE.p,qk⟩);go_wp2;exact bodyPost_ret (D3 (p:=2) (q:=3) (u:=4) rfl _ rfl rfl rfl q2 q3) rfl nU.p
theorem jA (h1:1<=N) (h2:N<=64) (hg:∀ s∈gs,Gd N s) (hc:ak N (Gr N (·∈gs)) O R) {y:List Nat} (h:aW w ov rv (O.map Ma.af) (R.map (List.map Ma.af))) (hx:Rg.NP w xv y) (hy:Gr N (·∈gs) y) :
  Calls Tryz.prog 39 #[.agg #[.int .i64 ((N:Nat):Int),ov,rv],xv] w fun e w'=>e=.returned (.bool true)/\Below w.heap.size w w':=by
 obtain ⟨oa,oc,rfl,-⟩:=h.1.shape;obtain ⟨ra,rc,rfl⟩:=h.2.shape;have gy:=(Gr.bV hg).gd y hy;have e1:=(kx h1 h2 hg hc gy).2 hy;have e2:=o5 h1 h2 hg hc gy;have E1:=U e1;have E2:=U e2;have CE:=U h;have NX:=U (dm.mk hx);obtain ⟨m,xa,xc,-,rfl,-⟩:=Rg.Ints.len hx;have K:=U (Below.refl w.heap.size w);clear h hx e1 e2 gy hy
 go_enter Tryz.func39,Tryz.ntmps39
 go_upto_region 0 with (fail);refine c6 ?_;have aF:=eY w (.int .i64 ((N:Nat):Int)) (.slice oa (O.map Ma.af).length oc) (.slice ra (R.map (List.map Ma.af)).length rc);refine d4 2 (Rg.aY _ _ rfl rfl) ?_;go_frame;have hb:=(Below.refl w.heap.size w).alloc (Nat.le_refl _) (.cells #[.int .i64 ((N:Nat):Int),.slice oa (O.map Ma.af).length oc,.slice ra (R.map (List.map Ma.af)).length rc] 25);generalize w.alloc (.cells #[.int .i64 ((N:Nat):Int),.slice oa (O.map Ma.af).length oc,.slice ra (R.map (List.map Ma.af)).length rc] 25)=w1 at *;replace CE:=U (CE.p.jj hb);replace NX:=U (NX.p.jj hb);replace K:=U (Rg.acc K.p hb);clear hb;have A0:=U aF.1;have A1:=U aF.2.1;have A2:=U aF.2.2;clear aF;refine d6 4 (.bool false) ?_;go_frame;go_upto_region 1 with (fail);refine c6 ?_;refine d4 8 (g9 ((.agg #[.int .i64 ((N:Nat):Int),.slice oa (O.map Ma.af).length oc,.slice ra (R.map (List.map Ma.af)).length rc])) ⟨w.heap.size,0,none⟩ (aq A0.p.cell A1.p.cell A2.p.cell)) ?_;go_frame
 refine d5 9 (.slice xa m xc) ?_;go_frame;refine f8 10 (aj 67 _ _ _ rfl rfl rfl (zA _ _)) ?_;refine (nZ CE.p NX.p.i).mono ?_;rintro e1 w2 ⟨rfl,hb⟩;rw [E1.p,E2.p];refine ⟨_,rfl,?_⟩;go_frame;replace CE:=U (CE.p.jj hb);replace NX:=U (NX.p.jj hb);replace A0:=U (A0.p.jj hb);replace A1:=U (A1.p.jj hb);replace A2:=U (A2.p.jj hb);replace K:=U (Rg.acc K.p hb);clear hb;refine d5 7 (.tuple #[.bool true,.int .i64 0]) ?_;go_frame;refine d4 11 (i7 (.bool true)) ?_;go_frame;refine d4 12 (i7 (.int .i64 0)) ?_;go_frame;refine d6 5 (.bool true) ?_;go_frame;refine d6 6 (.int .i64 0) ?_;go_frame;go_upto_region 2 with (fail);refine c6 ?_;refine d5 13 (.bool true) ?_;go_frame;refine d5 14 (.bool true) ?_;go_frame;refine d9 15 (a7 (.int .i64 0) _ rfl rfl) ?_;go_frame;refine d9 16 (dG _ _ rfl rfl rfl rfl) ?_;go_frame
 refine d4 17 (i6 (.bool true)) ?_;go_frame;refine d6 4 (.bool true) ?_;go_frame;go_wp2;go_ret;exact ⟨rfl,K.p⟩
theorem mj (h1:1<=N) (h2:N<=64) (iy:gs.length<=16) (hg:∀ s∈gs,Gd N s) (gv lv:Value) (l:List Int) (w:World) (h:Rg.Rows w gv (gs.map Ma.af)) (hl:Rg.cV maxLen w lv l) :
  Calls Tryz.prog 33 #[.agg #[.int .i64 ((N:Nat):Int),gv],lv] w fun e w'=>∃ v x,e=.returned v/\Gr N (·∈gs) x/\Rg.NP w' v x/\Below w.heap.size w w':=by
 obtain ⟨la,lc,rfl,-,-,-,ud⟩:=hl.shape;have HL:=U (IB.mk hl);have WG:=U ud;have vH:=U hg;have HR:=U (iR.mk h);obtain ⟨ga,gc,rfl,-⟩:=h.shape;obtain ⟨gn,q_⟩:∃ n,Hid ((gs.map Ma.af).length=n):=⟨_,U rfl⟩
 have aaX:gn=gs.length:=by rw [<- q_.p,List.length_map]
 rw [q_.p] at HR ⊢;have K:=U (Below.refl w.heap.size w);clear hl ud hg h
 go_enter Tryz.func33,Tryz.ntmps33
 go_upto_region 0 with (fail);refine c6 ?_;have ow:=Gq.new w (.int .i64 ((N:Nat):Int)) (.slice ga gn gc) 43;refine d4 2 (Rg.aY _ _ rfl rfl) ?_;go_frame;have hb:=(Below.refl w.heap.size w).alloc (Nat.le_refl _) (.cells #[.int .i64 ((N:Nat):Int),.slice ga gn gc] 43);generalize w.alloc (.cells #[.int .i64 ((N:Nat):Int),.slice ga gn gc] 43)=w1 at *;replace K:=U (Rg.acc K.p hb);clear hb;have GQ:=U ow;clear ow;refine d6 4 (.slice none 0 0) ?_;go_frame;go_upto_region 1 with (fail);refine c6 ?_;refine d4 9 (bY _ rfl rfl) ?_;go_frame;refine d4 10 (g9 (.int .i64 ((N:Nat):Int)) ⟨w.heap.size,0,none⟩ (ah GQ.p.c0)) ?_;go_frame;refine f8 11 (aE 66 _ _ rfl rfl (Dt _ _)) ?_;refine (Ez N w1 (by omega)).mono ?_;rintro e1 w2 ⟨xv,rfl,hxv,hb⟩;refine ⟨_,rfl,?_⟩;go_frame;replace GQ:=U (GQ.p.jj hb);replace K:=U (Rg.acc K.p hb)
 clear hb;have NX:=U (dm.mk hxv.1);refine d6 5 (xv) ?_;go_frame;clear hxv;go_upto_region 2 with (fail);refine c6 ?_;refine d6 6 (.int .i64 ((0:Nat):Int)) ?_;go_frame;have HX:=U (show Gr N (·∈gs) (Ma.bh N) from .one);go_wp2
 go_loopw [5,6] (fun xv iv wr=>∃ (k:Nat) (x:List Nat),iv=.int .i64 ((k:Nat):Int)/\k<=l.length/\k<=30/\Hid (Gr N (·∈gs) x)/\Hid (dm wr xv (Ma.af x))/\Hid (Gq wr w.heap.size (.int .i64 ((N:Nat):Int)) (.slice ga gn gc))/\Hid (Below w.heap.size w wr)) (fun _ iv _=>30 - (intOf iv).toNat)
 case atStart=>exact ⟨0,_,rfl,Nat.zero_le _,Nat.zero_le _,HX,NX,GQ,K⟩
 case round =>
  clear HX NX GQ K;obtain ⟨k,x,rfl,hk,aaY,HX,NX,GQ,K⟩:=hrel;generalize wr=wA at *;have GX:=U ((Gr.bV vH.p).gd x HX.p);obtain ⟨nn,na,nc,-,rfl,-⟩:=Rg.Ints.len NX.p.i
  by_cases PZ:k<l.length/\k<30/\0<gn
  case neg =>
   skip
   by_cases c1:k<l.length
   case neg =>
    skip
    go_upto_region 3 with (fail);refine c6 ?_;refine d5 12 (.int .i64 ((k:Nat):Int)) ?_;go_frame;refine d5 13 (.slice la l.length lc) ?_;go_frame;refine d4 14 (i4 Tryz.underlying26) ?_;go_frame;refine d4 15 (i3 (.bool false) .lss (h:=bj _ g7)) ?_;go_frame;refine d5 16 (.bool false) ?_;go_frame;refine g8 17 ?_;go_frame;refine g8 18 ?_;go_frame;refine d4 19 (i5 (.bool false)) ?_;go_frame;refine d5 20 (.bool false) ?_;go_frame;refine g8 21 ?_;go_frame;refine g8 22 ?_;go_frame;refine g8 23 ?_;go_frame;refine g8 24 ?_;go_frame;refine d4 25 (i5 (.bool false)) ?_;go_frame;go_upto_region 10 with (fail);refine c6 ?_;refine d5 51 (.slice na nn nc) ?_;go_frame;refine d6 4 (.slice na nn nc) ?_;go_frame;go_wp2;go_ret;exact ⟨_,x,rfl,HX.p,NX.p.i,K.p⟩
   case pos =>
    by_cases c2:k<30
    case neg =>
     skip
     go_upto_region 3 with (fail);refine c6 ?_;refine d5 12 (.int .i64 ((k:Nat):Int)) ?_;go_frame;refine d5 13 (.slice la l.length lc) ?_;go_frame;refine d4 14 (i4 Tryz.underlying26) ?_;go_frame;refine d4 15 (i3 (.bool true) .lss (h:=bj _ f9)) ?_;go_frame;refine d5 16 (.bool true) ?_;go_frame;refine d9 17 (a7 (.int .i64 ((k:Nat):Int)) _ rfl rfl) ?_;go_frame;refine d9 18 (i3 (.bool false) .lss (h:=bj _ g7)) ?_;go_frame;refine d4 19 (i6 (.bool false)) ?_;go_frame;refine d5 20 (.bool false) ?_;go_frame;refine g8 21 ?_;go_frame;refine g8 22 ?_;go_frame;refine g8 23 ?_;go_frame;refine g8 24 ?_;go_frame;refine d4 25 (i5 (.bool false)) ?_;go_frame;go_upto_region 10 with (fail);refine c6 ?_;refine d5 51 (.slice na nn nc) ?_;go_frame;refine d6 4 (.slice na nn nc) ?_;go_frame;go_wp2;go_ret;exact ⟨_,x,rfl,HX.p,NX.p.i,K.p⟩
    case pos =>
     have c3:¬ 0<gn:=fun c3=>PZ ⟨c1,c2,c3⟩;go_upto_region 3 with (fail);refine c6 ?_;refine d5 12 (.int .i64 ((k:Nat):Int)) ?_;go_frame;refine d5 13 (.slice la l.length lc) ?_;go_frame;refine d4 14 (i4 Tryz.underlying26) ?_;go_frame;refine d4 15 (i3 (.bool true) .lss (h:=bj _ f9)) ?_;go_frame;refine d5 16 (.bool true) ?_;go_frame;refine d9 17 (a7 (.int .i64 ((k:Nat):Int)) _ rfl rfl) ?_;go_frame;refine d9 18 (i3 (.bool true) .lss (h:=bj _ f9)) ?_;go_frame;refine d4 19 (i6 (.bool true)) ?_;go_frame;refine d5 20 (.bool true) ?_;go_frame;refine d9 21 (dw _ rfl rfl) ?_;go_frame;refine d9 22 (g9 (.slice ga gn gc) ⟨w.heap.size,1,none⟩ (Rg.ae _ _ Tryz.underlying41 GQ.p.c1)) ?_;go_frame;refine d9 23 (i4 Tryz.underlying41) ?_;go_frame;refine d9 24 (i3 (.bool false) .gtr (h:=fD _ g7)) ?_;go_frame
     refine d4 25 (i6 (.bool false)) ?_;go_frame;go_upto_region 10 with (fail);refine c6 ?_;refine d5 51 (.slice na nn nc) ?_;go_frame;refine d6 4 (.slice na nn nc) ?_;go_frame;go_wp2;go_ret;exact ⟨_,x,rfl,HX.p,NX.p.i,K.p⟩
  case pos =>
   obtain ⟨c1,c2,c3⟩:=PZ;obtain ⟨lb,lo,rfl,PO,ud⟩:=WG.p (by omega);obtain ⟨z,hz⟩:∃ z,Hid (l[k]=z):=⟨_,U rfl⟩;have Yb:=ud k c1;rw [hz.p] at Yb;have CZ:=U ((CL.mk Yb PO).jj K.p);clear Yb PO ud;go_upto_region 3 with (fail);refine c6 ?_;refine d5 12 (.int .i64 ((k:Nat):Int)) ?_;go_frame;refine d5 13 (.slice (some ⟨lb,lo,none⟩) l.length lc) ?_;go_frame;refine d4 14 (i4 Tryz.underlying26) ?_;go_frame;refine d4 15 (i3 (.bool true) .lss (h:=bj _ f9)) ?_;go_frame;refine d5 16 (.bool true) ?_;go_frame;refine d9 17 (a7 (.int .i64 ((k:Nat):Int)) _ rfl rfl) ?_;go_frame;refine d9 18 (i3 (.bool true) .lss (h:=bj _ f9)) ?_;go_frame;refine d4 19 (i6 (.bool true)) ?_;go_frame;refine d5 20 (.bool true) ?_;go_frame;refine d9 21 (dw _ rfl rfl) ?_;go_frame;refine d9 22 (g9 (.slice ga gn gc) ⟨w.heap.size,1,none⟩ (Rg.ae _ _ Tryz.underlying41 GQ.p.c1)) ?_;go_frame
   refine d9 23 (i4 Tryz.underlying41) ?_;go_frame;refine d9 24 (i3 (.bool true) .gtr (h:=fD _ f9)) ?_;go_frame;refine d4 25 (i6 (.bool true)) ?_;go_frame;go_upto_region 5 with (fail);have aw:Below wA.heap.size wA wA.drew:=(Below.refl _ _).drew;replace GQ:=U (GQ.p.jj aw);replace NX:=U (NX.p.jj aw);replace CZ:=U (CZ.p.jj aw);replace K:=U (Rg.acc K.p aw);clear aw;refine Rg.Any.begin (S:=Rg.aI 9 (fun _=>True) (fun W=>Below wA.drew.heap.size wA.drew W)) mix ?_;generalize wA.drew=c_ at *;have hS:∀ (l:Array Bool) W,Below c_.heap.size c_ W->Rg.aI 9 (fun _=>True) (fun W=>Below c_.heap.size c_ W) l W:=fun l W h=>⟨.inr trivial,h⟩;have hI:Below c_.heap.size c_ c_:=Below.refl _ _;refine d8 0 9 (.slice (some ⟨lb,lo,none⟩) l.length lc) 28 (hS _ _ hI) ?_;go_frame;refine d8 1 9 (.int .i64 ((k:Nat):Int)) 29 (hS _ _ hI) ?_;go_frame
   refine d7 2 9 (.pointer (some ⟨lb,lo+k,none⟩)) 30 rfl rfl (Rg.aJ cM _ _ rfl rfl lb (lo) (l.length) lc (k) rfl rfl c1) (hS _ _ hI) ?_;go_frame;refine d7 3 9 (.int .i64 z) 31 rfl rfl (j0 ⟨lb,lo+k,none⟩ (fun W hW=>ah ((Below.cell (p:=⟨lb,lo+k,none⟩) hW CZ.p.lt).trans CZ.p.cell))) (hS _ _ hI) ?_;go_frame;refine d7 4 9 (.pointer (some ⟨w.heap.size,1,none⟩)) 32 rfl rfl (.inl ⟨rfl,fun w _=>dw _ rfl rfl⟩) (hS _ _ hI) ?_;go_frame;refine d7 5 9 (.slice ga gn gc) 33 rfl rfl (j0 ⟨w.heap.size,1,none⟩ (fun W hW=>Rg.ae _ _ Tryz.underlying41 ((Below.cell (p:=⟨w.heap.size,1,none⟩) hW GQ.p.lt).trans GQ.p.c1))) (hS _ _ hI) ?_;go_frame;refine d7 6 9 (.int .i64 ((gn:Nat):Int)) 34 rfl rfl (.inl ⟨rfl,fun w _=>j8 _ _ _ rfl Tryz.underlying41 _ _ _ rfl⟩) (hS _ _ hI) ?_;go_frame;refine d7 7 9 (.int .i64 (((2*gn):Nat):Int)) 35 rfl rfl (.inl ⟨rfl,fun w _=>bN (R:=.int .i64 (((2*gn):Nat):Int)) .mul _ _ _ rfl rfl rfl (Im _ (by omega) (by omega))⟩) (hS _ _ hI) ?_;go_frame
   refine Rg.Any.one (i:=8) (by kernel_rfl) (Rg.Any.ask (some 36) rfl rfl rfl _ _ (aj 28 _ _ _ rfl rfl rfl (J_ _ _)) ?_);refine (qP z (2*gn) c_ (by omega) (by omega)).mono ?_;rintro e1 fT ⟨r,rfl,hr,hb⟩
   have hrh:r / 2<gn:=by omega
   clear hr;have aS:=Rg.acc hI hb;clear hb hI;refine ⟨_,rfl,(hS _ _ aS),?_⟩;go_frame;refine i9 9 7 rfl rfl (a8 (.int .i64 ((r:Nat):Int)) _ rfl rfl) (hS _ _ aS) ?_;go_frame;refine Rg.Any.done (by kernel_rfl) ?_ _;replace GQ:=U (GQ.p.jj aS);replace NX:=U (NX.p.jj aS);replace CZ:=U (CZ.p.jj aS);replace K:=U (Rg.acc K.p aS);clear hS aS;have rr:=U (Int.ofNat_tdiv r 2);have jF:=U (Int.ofNat_tmod r 2)
   have RN:r / 2<(gs.map Ma.af).length:=by rw [q_.p]; exact hrh
   obtain ⟨rb,ro,ua,uc,e1,cZ,cF,dg⟩:=jy HR.p.r (i:=r / 2) RN;subst e1
   have aaC:r / 2<gs.length:=by rw [List.length_map] at RN; exact RN
   obtain ⟨q,hq⟩:∃ z,Hid (gs[r / 2]=z):=⟨_,U rfl⟩;rw [List.getElem_map,hq.p] at cF dg;obtain ⟨pm,qa,qc,nh,gG,-⟩:=Rg.Ints.len dg;rw [gG] at cF dg;have CX:=U ((CL.mk cF cZ).jj K.p);have NQ:=U (dm.mk (dg.jj K.p));have HQ:=U (show Gr N (·∈gs) q from .gen _ (hq.p▸List.getElem_mem aaC));have Ug:=U ((Gr.bV vH.p).gd q HQ.p);clear cZ cF dg nh gG;go_upto_region 6 with (fail);refine c6 ?_;refine d4 37 (dw _ rfl rfl) ?_;go_frame;refine d4 38 (g9 (.slice (some ⟨rb,ro,none⟩) gn gc) ⟨w.heap.size,1,none⟩ (Rg.ae _ _ Tryz.underlying41 GQ.p.c1)) ?_;go_frame;refine d5 39 (.int .i64 ((r:Nat):Int)) ?_;go_frame;refine d4 40 (i3 (.int .i64 ((r / 2:Nat):Int)) .quo (h:=N7 _ (by decide) rr.p.symm (by omega))) ?_;go_frame;refine d4 41 (aD cp _ _ rfl rb (ro) (gn) gc ((r / 2)) rfl rfl hrh) ?_;go_frame
   refine d4 42 (g9 (.slice qa pm qc) ⟨rb,ro+(r / 2),none⟩ (Rg.ae _ _ Tryz.underlying27 CX.p.cell)) ?_;go_frame;refine d6 8 (.slice qa pm qc) ?_;go_frame
   by_cases aaZ:r % 2=1
   case pos =>
    skip
    go_upto_region 7 with (fail);refine c6 ?_;refine d5 43 (.int .i64 ((r:Nat):Int)) ?_;go_frame;refine d4 44 (i3 (.int .i64 (((r % 2):Nat):Int)) .rem (h:=Pp _ (by decide) jF.p.symm (by omega))) ?_;go_frame;refine d4 45 (i3 (.bool true) .eql (h:=iN _ f9)) ?_;go_frame;go_upto_region 8 with (fail);refine c6 ?_;refine d5 46 (.slice qa pm qc) ?_;go_frame;refine f8 47 (aE 35 _ _ rfl rfl (Ka _ _)) ?_;refine (pU _ q fT NQ.p.i Ug.p.1 (by rw [Ug.p.2]; omega)).mono ?_;rintro e1 pG ⟨iv,rfl,lY,hb⟩;refine ⟨_,rfl,?_⟩;go_frame;replace GQ:=U (GQ.p.jj hb);replace NX:=U (NX.p.jj hb);replace CZ:=U (CZ.p.jj hb);replace CX:=U (CX.p.jj hb);replace NQ:=U (NQ.p.jj hb);replace K:=U (Rg.acc K.p hb);clear hb;have n8:=U (dm.mk lY.1);refine d6 8 (iv) ?_;go_frame;clear lY;go_upto_region 9 with (fail)
    refine c6 ?_;refine d5 48 (.slice na nn nc) ?_;go_frame;refine d5 49 (iv) ?_;go_frame;refine f8 50 (aj 34 _ _ _ rfl rfl rfl (oU _ _)) ?_;refine (eV _ _ x (Ma.aX q) pG NX.p.i n8.p.i (fun t ht=>by rw [(Cm.aH Ug.p).2]; exact je GX.p ht) (by rw [GX.p.2]; omega)).mono ?_;rintro e1 w24 ⟨mv,rfl,iO,hb⟩;refine ⟨_,rfl,?_⟩;go_frame;replace GQ:=U (GQ.p.jj hb);replace NX:=U (NX.p.jj hb);replace CZ:=U (CZ.p.jj hb);replace CX:=U (CX.p.jj hb);replace NQ:=U (NQ.p.jj hb);replace n8:=U (n8.p.jj hb);replace K:=U (Rg.acc K.p hb);clear hb;have NM:=U (dm.mk iO.1);refine d6 5 (mv) ?_;go_frame;clear iO;go_upto_region 4 with (fail);refine c6 ?_;refine d5 26 (.int .i64 ((k:Nat):Int)) ?_;go_frame;refine d4 27 (i3 (.int .i64 (((k+1):Nat):Int)) .add (h:=cg _ (by omega) (by omega))) ?_;go_frame
    refine d6 6 (.int .i64 (((k+1):Nat):Int)) ?_;go_frame;have Yc:=U (show Gr N (·∈gs) (Ma.ar x ((Ma.aX q))) from .mul _ _ HX.p (.inv _ HQ.p));go_wp2
    go_roundw
    case rel=>exact ⟨k+1,_,by go_num,c1,c2,Yc,NM,GQ,K⟩
    case measure=>simp [intOf]; omega
   case neg =>
    skip
    go_upto_region 7 with (fail);refine c6 ?_;refine d5 43 (.int .i64 ((r:Nat):Int)) ?_;go_frame;refine d4 44 (i3 (.int .i64 (((r % 2):Nat):Int)) .rem (h:=Pp _ (by decide) jF.p.symm (by omega))) ?_;go_frame;refine d4 45 (i3 (.bool false) .eql (h:=iN _ g7)) ?_;go_frame;go_upto_region 9 with (fail);refine c6 ?_;refine d5 48 (.slice na nn nc) ?_;go_frame;refine d5 49 (.slice qa pm qc) ?_;go_frame;refine f8 50 (aj 34 _ _ _ rfl rfl rfl (oU _ _)) ?_;refine (eV _ _ x q fT NX.p.i NQ.p.i (fun t ht=>by rw [Ug.p.2]; exact je GX.p ht) (by rw [GX.p.2]; omega)).mono ?_;rintro e1 rf ⟨mv,rfl,iO,hb⟩;refine ⟨_,rfl,?_⟩;go_frame;replace GQ:=U (GQ.p.jj hb);replace NX:=U (NX.p.jj hb);replace CZ:=U (CZ.p.jj hb);replace CX:=U (CX.p.jj hb);replace NQ:=U (NQ.p.jj hb);replace K:=U (Rg.acc K.p hb)
    clear hb;have NM:=U (dm.mk iO.1);refine d6 5 (mv) ?_;go_frame;clear iO;go_upto_region 4 with (fail);refine c6 ?_;refine d5 26 (.int .i64 ((k:Nat):Int)) ?_;go_frame;refine d4 27 (i3 (.int .i64 (((k+1):Nat):Int)) .add (h:=cg _ (by omega) (by omega))) ?_;go_frame;refine d6 6 (.int .i64 (((k+1):Nat):Int)) ?_;go_frame;have Yc:=U (show Gr N (·∈gs) (Ma.ar x (q)) from .mul _ _ HX.p (HQ.p));go_wp2
    go_roundw
    case rel=>exact ⟨k+1,_,by go_num,c1,c2,Yc,NM,GQ,K⟩
    case measure=>simp [intOf]; omega

section
variable {N:Nat} {gs:List (List Nat)} (hg:∀ s∈gs,Gd N s) {O:List (List Nat)} {R:List (List (List Nat))} (hc:ak N (Gr N (·∈gs)) O R)
include hg hc
theorem iL.Ny {Pb:List Nat->Bool} {e:Ending} (h:iL ck (((N:Nat):Int),O.map Ma.af,R.map (List.map Ma.af)) Pb w e w') (h0:ck=0) {g:List Nat} (hh:Gr N (·∈gs) g) (hp:Pb g=true) :
  ∃ a m c p,e=.returned (.tuple #[.slice a m c,.int .i64 0])/\Rg.NP w' (.slice a m c) p/\(Gr N (·∈gs) p/\Pb p=true/\bQ (Ma.af g) (Ma.af p)=false)/\Below w.heap.size w w':=by
 obtain ⟨hb,⟨h1,_⟩ | ⟨_,N',O',R',⟨e1,_,_,e2,e3,_⟩,hf⟩⟩:=h
 ·exact absurd h0 h1
 ·have Rv:N=N':=by simp only at e1; omega
  subst Rv;have My:O=O':=dh e2;subst My
  have Rw:R=R':=by
   have:=congrArg (List.map (List.map nW)) e3;simp only at this
   rwa [iD,iD] at this
  subst Rw;have hA:=fI hg hc;obtain ⟨j,hj,ej⟩:=List.getElem_of_mem ((hA.2 g).2 hh)
  have gj:(gQ N O R).getD j []=g:=by rw [List.getD_eq_getElem?_getD,List.getElem?_eq_getElem hj,<- ej]; rfl
  rcases hf with ⟨f1,_⟩ | ⟨k,x,f1,f2,f3,f4,f5⟩
  ·have:=f1 j hj
   rw [gj,hp] at this
   cases this
  ·obtain ⟨m,a,c,_,rfl,_⟩:=f5.len
   have hkj:k<=j:=Classical.byContradiction fun hn=>by
    have:=f3 j (by omega);rw [gj,hp] at this
    cases this
   have gk:(gQ N O R).getD k []=(gQ N O R)[k]:=by rw [List.getD_eq_getElem?_getD,List.getElem?_eq_getElem f1]; rfl
   refine ⟨a,m,c,(gQ N O R).getD k [],f4,f5,⟨(hA.2 _).1 (by rw [gk]; exact List.getElem_mem f1),f2,?_⟩,hb⟩;rw [gk,<- ej]
   by_cases e:k=j
   ·subst e; exact oV _
   ·have:=List.pairwise_iff_getElem.1 (JY hA.1) k j (by rw [List.length_map]; exact f1) (by rw [List.length_map]; exact hj) (by omega)
    rwa [List.getElem_map,List.getElem_map] at this
theorem Vq (hd:N<=6):uz (((N:Nat):Int),O.map Ma.af,R.map (List.map Ma.af))=0:=by
 have hA:=fI hg hc;refine Lm (Classical.byContradiction fun hn=>Jt.no hg hc hd ⟨(gQ N O R).take 721,(List.take_sublist 721 _).nodup (fZ hA.1),fun y hy=>(hA.2 y).1 (List.mem_of_mem_take hy),by rw [List.length_take]; omega⟩)
theorem Yd (h1:1<=N) (hd:N<=6) {SS TS:List (List Int)} (h2:Ma.dT PS=0) (h4:∀ x∈PS,(x.length:Int)=((N:Nat):Int)) (h5:jC ((N:Nat):Int) SS=0) (h6:ku ((N:Nat):Int) TS=0):gL ((N:Nat):Int) [(((N:Nat):Int),O.map Ma.af,R.map (List.map Ma.af))] PS SS TS (((N:Nat):Int),O.map Ma.af,R.map (List.map Ma.af))=0 :=
 xN (by rw [ks,if_pos (jQ.ou h1 (by omega) hg hc)]; rfl) h2 (by simp) h4 h5 h6 (Vq hg hc hd)
end
theorem Nz (h1:1<=N) (h2:N<=64) {x y:List Nat} (gx:Gd N x) (gy:Gd N y):Ma.dT [Ma.af x,Ma.af y]=0:=by
 have e:∀ z,Gd N z->Ma.bB (Ma.af z)=0:=fun z g=>Ma.nC (by rw [Ma.az,g.2]; exact h1) (by rw [Ma.az,g.2]; exact h2) (Ma.nD g.1);rw [Ma.dT,if_pos (e x gx),Ma.dT,if_pos (e y gy)];rfl
theorem H0 {s:List Nat} (h:∀ y∈s,y<N):(Ma.af s).any (i_ ((N:Nat):Int))=false:=by
 rw [List.any_eq_false];intro z hz;obtain ⟨y,hy,rfl⟩:=List.mem_map.1 hz;have:=h y hy;unfold i_;simp;omega
theorem qR {s:List Nat} (h:s.Pairwise (· < ·)):pz (Ma.af s):=fun j hj h1=>by
 rw [Ma.az] at hj;have:=List.pairwise_iff_getElem.1 h (j - 1) j (by omega) hj (by omega);simp only [Ma.af,List.getElem_map];omega
theorem RQ {s t:List Nat} (h:s.Pairwise (· < ·)) (h':t.Pairwise (· < ·)) (hs:∀ y∈s,y<N) (ht:∀ y∈t,y<N):jC ((N:Nat):Int) [Ma.af s,Ma.af t]=0:=by
 have e:∀ z:List Nat,z.Pairwise (· < ·)->(∀ y∈z,y<N)->j2 ((N:Nat):Int) (Ma.af z)=0:=fun z h1 h2=>by
  unfold j2;rw [if_neg (by rw [H0 h2]; decide),if_pos (qR h1)]
 rw [jC,if_pos (e s h hs),jC,if_pos (e t h' ht)];rfl
theorem RS {s t:List Nat} (h:s.length<=64) (h':t.length<=64) (hs:∀ y∈s,y<N) (ht:∀ y∈t,y<N):ku ((N:Nat):Int) [Ma.af s,Ma.af t]=0:=by
 have e:∀ z:List Nat,z.length<=64->(∀ y∈z,y<N)->lA ((N:Nat):Int) (Ma.af z)=0:=fun z h1 h2=>by
  unfold lA;rw [if_neg (by rw [Ma.az]; omega),if_neg (by rw [H0 h2]; decide)]
 rw [ku,if_pos (e s h hs),ku,if_pos (e t h' ht)];rfl
theorem Uh {x p:List Nat} (gx:Gd N x) (gp:Gd N p):Ma.ar x p=Ma.ar p (dz x p):=by
 have gc:Gd N (dz x p):=Cm.aT (Cm.aT (Cm.aH gp) gx) gp;refine Cm.iw (Cm.aT gx gp).2 (Cm.aT gp gc).2 fun i hi=>?_;rw [Cm.bs gx hi,Cm.bs gp hi,kA gx gp hi]
theorem Ui {x y h:List Nat} (e:dz x h=y):qM (Ma.af x) (Ma.af y) h=true:=by
 unfold qM;rw [dn,dn];exact decide_eq_true e
theorem Uj {x y h:List Nat} (e:qM (Ma.af x) (Ma.af y) h=true):dz x h=y:=by
 unfold qM at e;rw [dn,dn] at e;exact of_decide_eq_true e
theorem Uk {s t h:List Nat} (e:s.map (ap h)=t):wZ (Ma.af s) (Ma.af t) h=true:=by
 unfold wZ;rw [dn,dn];exact decide_eq_true e
theorem Ul {s t h:List Nat} (e:wZ (Ma.af s) (Ma.af t) h=true):s.map (ap h)=t:=by
 unfold wZ at e;rw [dn,dn] at e;exact of_decide_eq_true e
def ox (n:Nat) (f:Nat->Bool):List Nat:=(List.range n).filter f
theorem D6 (n:Nat) (f:Nat->Bool):(ox n f).Pairwise (· < ·):=List.pairwise_lt_range.filter f
theorem Um {f:Nat->Bool}:∀ y∈ox n f,y<n:=fun _ hy=>List.mem_range.1 (List.mem_filter.1 hy).1
theorem RU {L:List Nat} (h1:L.Nodup) (h2:∀ y∈L,y<n) {f:Nat->Bool} (hf:∀ i,i<n->(f i=true↔i∈L)):(ox n f).length=L.length:=by
 refine (List.perm_iff_count.2 fun a=>?_).length_eq
 have h3:(ox n f).Nodup:=(D6 n f).imp fun h e=>by omega
 rw [h1.count,h3.count]
 by_cases ha:a∈L
 ·rw [if_pos ha,if_pos (show a∈ox n f from List.mem_filter.2 ⟨List.mem_range.2 (h2 a ha),(hf a (h2 a ha)).2 ha⟩)]
 ·rw [if_neg ha,if_neg (show a∉ox n f from fun hq=>by
   have q:=List.mem_filter.1 hq
   exact ha ((hf a (List.mem_range.1 q.1)).1 q.2))]
theorem Un {s h:List Nat} (gh:Gd N h) (hs:s.Pairwise (· < ·)) (iF:∀ y∈s,y<N) {f:Nat->Bool} (hf:∀ i,i<N->(f i=true↔i∈s.map (ap h))):qN (Ma.af s) (Ma.af (ox N f)) h=true:=by
 unfold qN;rw [dn,dn,JU (qR hs) (qR (D6 N f)) iF gh];unfold TY
 have hm:∀ y∈s.map (ap h),y<N:=fun y hy=>by
  obtain ⟨z,hz,rfl⟩:=List.mem_map.1 hy;exact Cm.bI gh (iF z hz)
 have hnd:(s.map (ap h)).Nodup:=by
  rw [List.Nodup,List.pairwise_map];refine hs.imp_of_mem fun {a b} ha hb gi e=>?_;have:=Cm.iu gh (iF a ha) (iF b hb) e;omega
 refine decide_eq_true ⟨?_,fun y hy=>?_⟩
 ·rw [RU hnd hm hf,List.length_map]
 ·have uS:=List.mem_map_of_mem (f:=ap h) hy
  exact List.mem_filter.2 ⟨List.mem_range.2 (hm _ uS),(hf _ (hm _ uS)).2 uS⟩
theorem Uo {s t:List Nat} (gq:Gd N q) (hs:s.Pairwise (· < ·)) (ht:t.Pairwise (· < ·)) (iF:∀ y∈s,y<N) (h:qN (Ma.af s) (Ma.af t) q=true):∀ y∈s,ap q y∈t:=by
 unfold qN at h;rw [dn,dn,JU (qR hs) (qR ht) iF gq] at h;exact (of_decide_eq_true h).2
section
variable {N:Nat} (h1:1<=N) (hd:N<=6) {gs:List (List Nat)} (hg:∀ s∈gs,Gd N s) {O:List (List Nat)} {R:List (List (List Nat))} (hc:ak N (Gr N (·∈gs)) O R) {ov rv:Value} {w:World} (hce:aW w ov rv (O.map Ma.af) (R.map (List.map Ma.af)))
include h1 hd hg hc hce
theorem H3 {x y h:List Nat} (hx:Rg.NP w xv x) (hy:Rg.NP w yv y) (gx:Gd N x) (gy:Gd N y) (hh:Gr N (·∈gs) h) (e:dz x h=y) :
  Calls Tryz.prog 18 #[.agg #[.int .i64 ((N:Nat):Int),ov,rv],xv,yv] w fun e w'=>∃ a m c p,e=.returned (.tuple #[.slice a m c,.int .i64 0])/\Rg.NP w' (.slice a m c) p/\(Gr N (·∈gs) p/\qM (Ma.af x) (Ma.af y) p=true/\bQ (Ma.af h) (Ma.af p)=false)/\Below w.heap.size w w' :=
 (pB hce (by omega) hx hy).mono fun _ _ hr=>hr.Ny hg hc (Yd hg hc h1 hd (Nz h1 (by omega) gx gy) (fun z hz=>by
  simp only [List.mem_cons,List.not_mem_nil,or_false] at hz
  rcases hz with rfl | rfl
  ·rw [Ma.az,gx.2]
  ·rw [Ma.az,gy.2]) rfl rfl) hh (Ui e)
theorem H4 {sv:Value} {s t h:List Nat} (hs:Rg.NP w sv s) (ht:Rg.NP w tv t) (ps:s.Pairwise (· < ·)) (pt:t.Pairwise (· < ·)) (ls:∀ y∈s,y<N) (lt:∀ y∈t,y<N) (es:s.length<=N) (et:t.length<=100) (hh:Gr N (·∈gs) h) (e:qN (Ma.af s) (Ma.af t) h=true) :
  Calls Tryz.prog 21 #[.agg #[.int .i64 ((N:Nat):Int),ov,rv],sv,tv] w fun e w'=>∃ a m c p,e=.returned (.tuple #[.slice a m c,.int .i64 0])/\Rg.NP w' (.slice a m c) p/\(Gr N (·∈gs) p/\qN (Ma.af s) (Ma.af t) p=true/\bQ (Ma.af h) (Ma.af p)=false)/\Below w.heap.size w w' :=
 (Hb hce (by omega) hs ht (by rw [Ma.az]; omega) (by rw [Ma.az]; omega)).mono fun _ _ hr=>hr.Ny hg hc (Yd hg hc h1 hd rfl (by simp) (RQ ps pt ls lt) rfl) hh e
theorem H5 {sv:Value} {s t h:List Nat} (hs:Rg.NP w sv s) (ht:Rg.NP w tv t) (ls:∀ y∈s,y<N) (lt:∀ y∈t,y<N) (es:s.length<=N) (et:t.length<=N) (hh:Gr N (·∈gs) h) (e:s.map (ap h)=t) :
  Calls Tryz.prog 23 #[.agg #[.int .i64 ((N:Nat):Int),ov,rv],sv,tv] w fun e w'=>∃ a m c p,e=.returned (.tuple #[.slice a m c,.int .i64 0])/\Rg.NP w' (.slice a m c) p/\(Gr N (·∈gs) p/\wZ (Ma.af s) (Ma.af t) p=true/\bQ (Ma.af h) (Ma.af p)=false)/\Below w.heap.size w w' :=
 (A3 hce (by omega) hs ht (by rw [Ma.az]; omega) (by rw [Ma.az]; omega)).mono fun _ _ hr=>hr.Ny hg hc (Yd hg hc h1 hd rfl (by simp) rfl (RS (by omega) (by omega) ls lt)) hh (Uk e)
end
theorem mS (h1:1<=N) (h2:N<=64) {p:List Nat} (h:Rg.NP w v p) (g:Gd N p):Calls Tryz.prog 38 #[v,.int .i64 ((N:Nat):Int)] w fun e w'=>e=.returned (.bool true)/\Below w.heap.size w w':=by
 have hl:(Ma.af p).length=N:=by rw [Ma.az,g.2]
 have:=Ch v (Ma.af p) w h (by omega) (by omega);rw [hl,decide_eq_true (show Ma.s4 (Ma.af p) from Ma.nD g.1)] at this;exact this
theorem wu {a b:List Nat} (h:Rg.NP w v1 a) (h':Rg.NP w v2 b) (e:bQ (Ma.af a) (Ma.af b)=false):Calls Tryz.prog 40 #[v1,v2] w fun e w'=>e=.returned (.bool false)/\Below w.heap.size w w' :=
 (Tt v1 v2 _ _ w h h').mono fun _ _ ⟨q,k,hk⟩=>⟨by rw [q,e],by rw [hk]; exact Rg.drewN (Below.refl _ _) _⟩
theorem NA {l:List Nat} {x:Nat} (h:Rg.NP w v l) (hx:x∈l):Calls Tryz.prog 41 #[v,.int .i64 ((x:Nat):Int)] w fun e w'=>e=.returned (.bool true)/\Below w.heap.size w w':=by
 have:=N9 v (Ma.af l) ((x:Nat):Int) w h;rw [decide_eq_true (show ((x:Nat):Int)∈Ma.af l from List.mem_map_of_mem (f:=fun (x:Nat)=>(x:Int)) hx)] at this;exact this
theorem eX.ni {s:List Nat} (h:eX B W v (Ma.af s)) (hl:s.length<=1000):dm W v (Ma.af s):=⟨(h.fi (by rw [Ma.az]; omega) (G:=fun _=>True) (fun _ _ _=>trivial)).ints⟩
end
end Go.Proofs.YtpedbljnhnoohaaGreat
