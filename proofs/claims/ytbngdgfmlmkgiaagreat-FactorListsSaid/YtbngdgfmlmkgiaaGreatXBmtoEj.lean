/- Lemmas and contracts on the way to the statement; no condition of their own beyond those written. -/
import Derived.Test.YtbngdgfmlmkgiaaGreatXKbtoBl
import Derived.Lib.SmallJoins
import Derived.Deep.Matrix
import Derived.Deep.Strs
set_option linter.unusedVariables false
set_option linter.unusedSimpArgs false
set_option maxRecDepth 100000
set_option maxHeartbeats 8000000
variable {n B N k m L j D mb tc tb tf base bytes n₀ cap:Nat} {F M F' F0:Nat→Prop} {W w' W' X w0:Go.World} {ll OO Wd:List (List Int)} {gs O Ks Fd:List (List Nat)} {l xl l1 l2:List Int} {R:List (List (List Nat))} {d:Int} {rv ov v1 v2 z fv xv u1 u2 cv u3:Go.Value} {RR:List (List (List Int))} {H:List Nat→Prop} {y a q s:List Nat} {vs xs:List Go.Value}
namespace Go.Proofs.YtbngdgfmlmkgiaaGreat
open Go.RowKit
open Go.Proofs
open Go.Proofs.Ob
open Go.Sort
open Go.Proofs.Cm (Gd Gr ar ap)
attribute [local irreducible] Go.Calls Go.wpList
theorem GH (args:Array Value) (w:World):(callFunc 17 args).run Tryz.prog w=.ok (.enter 17 args) w:=by kernel_rfl
theorem TI (args:Array Value) (w:World):(callFunc 20 args).run Tryz.prog w=.ok (.enter 20 args) w:=by kernel_rfl
theorem h_.opened (h:h_ B W fv mb Fd Ks vs Wd) (hn:1≤Fd.length) :
  ∃ g cap us,fv=.slice (some ⟨g,0,none⟩) Fd.length cap∧Rg.br (GF W mb fv) W us (Fd.map Ma.ah)∧g<W.heap.size∧Fd.length≤cap∧cap≤maxLen∧∀ i (_:i<us.length),W.cell? ⟨g,i,none⟩=some us[i]∧W.frozen? ⟨g,i,none⟩=false:=by
 obtain ⟨us,⟨h1,h2⟩,h3⟩:=h.row
 rcases h2 with ⟨_,e⟩ | ⟨g,cap,cur,e,hg,hc,h5,h6,h7,h8⟩
 ·omega
 ·refine ⟨g,cap,us,e,h3,(Array.getElem?_eq_some_iff.1 hc).1,h5,h6,fun i hi=>⟨?_,?_⟩⟩
  ·unfold World.cell?
   simp only [hc]
   have h9:cur.toList[i]?=us[i]?:=by
    rw [← h8,List.getElem?_take_of_lt (by have:=h3.1; rw [List.length_map] at this; omega)]
   rw [← Array.getElem?_toList,h9,List.getElem?_eq_getElem hi]; rfl
  ·unfold World.frozen?
   simp [hc]
theorem h_.lo (h:h_ B W fv mb Fd Ks vs Wd):∀ k,fv.ownBlock=some k→B≤k:=fun k e=>by
 obtain ⟨us,h1,h2⟩:=h.row;exact (h1.lt k e).1
def SrV (d:Int) (ll:List (List Int)) (w w':World) (fv:Value) (mo:Option Nat) (c:Int):Prop :=
 (Ma.bJ d ll≠0∧c=Ma.bJ d ll∧fv=.slice none 0 0) ∨
  (Ma.bJ d ll=0∧∃ (N:Nat) (gs:List (List Nat)) (O:List (List Nat)) (R:List (List (List Nat))),d=((N:Nat):Int)∧ll=gs.map Ma.ah∧1≤N∧gs.length≤16∧(∀ s∈gs,Gd N s)∧ar N (Cm.Gr N (·∈gs)) O R ∧
   ((5040<bQ O N N∧c=5∧fv=.slice none 0 0) ∨
   (bQ O N N≤5040∧c=0∧∃ (mb:Nat) (vs:List Value) (st:cF),mo=some mb∧iO (ak gs) N st∧BI N st∧st.1.length≤5040∧1≤st.1.length∧h_ w.heap.size w' fv mb st.1 st.1 vs st.2)))
theorem iO.len {ml:List (List Nat × Int)} {st:cF} (h:iO ml N st):1≤st.1.length:=by
 obtain ⟨i,rfl,h2⟩:=h
 induction i with
 | zero=>exact Nat.le_refl 1
 | succ i ih =>
  have e:aI ml N (i+1)=if i<(aI ml N i).1.length then dC ml (aI ml N i) i else aI ml N i:=rfl;omega
theorem po (gv:Value) (d:Int) (ll:List (List Int)) (w:World) (h:Rg.Rows w gv ll) (hd:d≤12∨64<d) :
  Calls Tryz.prog 17 #[.agg #[.int .i64 d,gv]] w fun ed w'=>∃ a n cap mo c,ed=.returned (.tuple #[.slice a n cap,.map mo,.int .i64 c])∧SrV d ll w w' (.slice a n cap) mo c∧Below w.heap.size w w':=by
 refine (yM gv d ll w h hd).mono ?_
 rintro ed w' ⟨hb,⟨h1,rfl⟩ | ⟨h1,N,gs,O,R,e1,e2,h2,h3,h4,h5,⟨h6,rfl⟩ | ⟨h6,fv,mb,vs,st,rfl,h7,h8,h9⟩⟩⟩
 ·exact ⟨_,_,_,_,_,rfl,.inl ⟨h1,rfl,rfl⟩,hb⟩
 ·exact ⟨_,_,_,_,_,rfl,.inr ⟨h1,N,gs,O,R,e1,e2,h2,h3,h4,h5,.inl ⟨h6,rfl,rfl⟩⟩,hb⟩
 ·obtain ⟨a,c,hs⟩:=h9.shape
  subst hs
  have hl:st.1.length≤5040:=by
   obtain ⟨i,hi,_⟩:=h7;have:=xE h4 h5 i;rw [hi] at this;omega
  exact ⟨_,_,_,_,_,rfl,.inr ⟨h1,N,gs,O,R,e1,e2,h2,h3,h4,h5,.inr ⟨h6,rfl,mb,vs,st,rfl,h7,h8,hl,h7.len,h9⟩⟩,hb⟩
theorem IG:(Tryz.prog.info? 43).map (fun i=>(i.zero,i.size,i.bytes))=some (some (.map none),1,8):=by kernel_rfl
theorem p8 {o:Oper} {a:Act} {w:World} (ho:o.op=.alloc 43):(execOp a.eval o).run Tryz.prog w=.ok (.value (.pointer (some ⟨w.heap.size,0,none⟩))) (w.alloc (.cells #[.map none] 43)):=by
 obtain ⟨i0,hi,dc,bM,eY⟩:=info_parts IG;unfold execOp;simp [ho,Instr.alloc,typeInfo,zeroValue,hi,dc,newVar,Value.cells,Result.andThen];rfl
theorem sI {w:World} {b:Nat} {u:Value} (mo:Option Nat) (h:w.cell? ⟨b,0,none⟩=some u) (hf:w.frozen? ⟨b,0,none⟩=false) :
  (storeVar 43 ⟨b,0,none⟩ (.map mo)).run Tryz.prog w=.ok () (w.setCell ⟨b,0,none⟩ (.map mo)):=by
 obtain ⟨i0,hi,dc,bM,eY⟩:=info_parts IG
 have h0:(⟨b,0,none⟩:Addr).add 0=⟨b,0,none⟩:=by simp [Addr.add]
 simp [storeVar,sizeOf,typeInfo,hi,bM,Value.cells,storeCells,store,h0];simp [Sem.run,h,hf]
theorem NB (W:World) (mo:Option Nat) (t:TypeId):CL ((W.alloc (.cells #[.map none] t)).setCell ⟨W.heap.size,0,none⟩ (.map mo)) W.heap.size 0 (.map mo)∧Below W.heap.size W ((W.alloc (.cells #[.map none] t)).setCell ⟨W.heap.size,0,none⟩ (.map mo)):=by
 have c0:(W.alloc (.cells #[.map none] t)).cell? ⟨W.heap.size,0,none⟩=some (.map none):=by rw [Rg.aM]; rfl
 exact ⟨⟨World.cell?_setCell_same (h:=c0) ..,by simp⟩,((Below.refl _ _).alloc (Nat.le_refl _) _).setCell (p:=⟨W.heap.size,0,none⟩) (Nat.le_refl _) _⟩
theorem GJ {bx:Nat} {st:cF} {S:List (List Nat)} {w:World} (hr:Rg.Rows w xv (S.map Ma.ah)) (hS:∀ x∈S,x∈st.1) (hl:S.length≤5040) (hq:xK w.heap.size w mb st vs) (js:BI N st) (dT:1≤N) (hN:N≤64) (hc:CL w bx 0 (.map (some mb))) :
  Calls Tryz.prog 20 #[xv,.slice none 0 0,(.func (.func 21) #[] #[.pointer (some ⟨bx,0,none⟩)])] w fun ed w'=>∃ v,ed=.returned v∧Rg.Rows w' v (S.map (bj st))∧Below w.heap.size w w':=by
 obtain ⟨xa,xc,e0,-⟩:=hr.shape;obtain ⟨n,hn⟩:∃ n,Hid (S.length=n):=⟨_,ι rfl⟩;rw [List.length_map,hn.out] at e0;subst e0;have HR:=ι hr;have HS:=ι hS;have J7:=ι hq;have ix:=ι js;have TJ:=ι hc
 have hn5:n≤5040:=by rw [← hn.out]; exact hl
 clear hr hS hq js hc hl
 go_enter Tryz.func20,Tryz.ntmps20
 go_upto_region 0 with fail
 refine b6<|i5 rfl ?_;go_frame
 go_upto_region 1 with fail
 refine b6<|i5 rfl<|i8 (e8 Tryz.underlying22)<|i4 rfl ?_;go_frame
 have J8:=ι (show gi w.heap.size w (.slice none 0 0) ((S.take 0).map (bj st)) from gi.nil _ _);have K0:=ι (Below.refl w.heap.size w);go_wp2
 go_loopw [1,11] (fun vv iv wr=>∃ i:Nat,iv=.int .i64 ((i:Nat):Int)∧i≤n∧Hid (gi w.heap.size wr vv ((S.take i).map (bj st)))∧Hid (Below w.heap.size w wr)) (fun _ iv _=>n - (intOf iv).toNat)
 case atStart=>exact ⟨0,rfl,Nat.zero_le _,J8,K0⟩
 case round =>
  clear J8 K0;obtain ⟨i,rfl,hi,RW,K⟩:=hrel;obtain ⟨va,vc,cK⟩:=RW.out.shape;obtain ⟨k,hk⟩:∃ k,Hid (((S.take i).map (bj st)).length=k):=⟨_,ι rfl⟩;rw [hk.out] at cK;subst cK
  by_cases fS:i<n
  case neg =>
   have HT:=ι (show S.take i=S from List.take_of_length_le (by have:=hn.out; omega));go_upto_region 2 with fail
   refine b6<|i8 (d9 (.bool false) .lss (h:=aL _ d6)) ?_;go_frame
   go_upto_region 6 with fail
   refine b6<|i5 rfl<|i5 rfl ?_;go_frame
   go_wp2;go_ret;exact ⟨_,rfl,by have:=RW.out.rows (by rw [hk.out]; have:=hk.out; rw [List.length_map,List.length_take] at this; have:=hn.out; omega); rw [HT.out] at this; exact this,K.out⟩
  case pos =>
   have eW:=ι fS
   have xL:i<S.length:=by rw [hn.out]; exact fS
   obtain ⟨b,o,ua,uc,e1,dG,cr,GK⟩:=cQ HR.out (i:=i) (by rw [List.length_map]; exact xL);subst e1;obtain ⟨x,hx⟩:∃ x,Hid (S[i]'xL=x):=⟨_,ι rfl⟩
   have e5:((S.map Ma.ah)[i]'(by rw [List.length_map]; exact xL))=Ma.ah x:=by rw [List.getElem_map,hx.out]
   rw [e5] at cr GK;have CX:=ι ((CL.mk cr dG).below K.out);have NX:=ι (b_.below (b_.mk GK) K.out);have HQ:=ι (J7.out.below K.out);have CB:=ι (TJ.out.below K.out);have qG:=ι (show x∈st.1 from hx.out▸HS.out _ (List.getElem_mem xL));have bd:=ι (show ((S.take i).map (bj st)).length<1000000 by rw [List.length_map,List.length_take]; omega);have uZ:=ι (show (S.take (i+1)).map (bj st)=(S.take i).map (bj st)++[bj st x] by rw [List.take_succ_eq_append_getElem xL,List.map_append,hx.out]; rfl);clear dG cr GK e5;go_upto_region 2 with fail
   refine b6<|i8 (d9 (.bool true) .lss (h:=aL _ d5)) ?_;go_frame
   go_upto_region 3 with fail
   refine b6<|i8 (ag aE _ _ rfl b (o) (n) xc (i) rfl rfl eW.out)<|i8 (d8 ((.slice ua (Ma.ah x).length uc)) ⟨b,o+i,none⟩ (Rg.ae _ _ Tryz.underlying26 CX.out.cell))<|i3 ((.slice ua (Ma.ah x).length uc)) rfl ?_;go_frame
   go_upto_region 4 with fail
   refine b6<|i3 ((.func (.func 21) #[] #[.pointer (some ⟨bx,0,none⟩)])) rfl<|i5 rfl<|i3 ((.slice ua (Ma.ah x).length uc)) rfl ?_;go_frame
   refine d4 18 (qZ 21 _ _ _ _ rfl rfl rfl rfl (TH _ _)) ?_;refine (DR RW.out K.out.size HQ.out ix.out dT hN CB.out NX.out.i qG.out bd.out).mono ?_;rintro e1 ew ⟨uv,rfl,oV,hb⟩;have wU:=ι (show gi w.heap.size ew uv ((S.take (i+1)).map (bj st)) by rw [uZ.out]; exact oV);have K2:=ι (hb _ _ (Nat.le_refl _) K.out);clear oV;refine ⟨_,rfl,?_⟩;go_frame;clear hb;refine i3 (uv) rfl ?_;go_frame;go_upto_region 5 with fail
   refine b6<|i8 (d9 (.int .i64 (((i+1):Nat):Int)) .add (h:=bI _ (by omega) (by omega)))<|i4 rfl ?_;go_frame
   go_wp2
   go_roundw
   case rel=>exact ⟨i+1,by go_num,eW.out,wU,K2⟩
   case measure=>simp [intOf]; have:=eW.out; omega
theorem Xm (args:Array Value) (w:World):(callFunc 18 args).run Tryz.prog w=.ok (.enter 18 args) w:=by kernel_rfl
def Ba (d:Int) (ll:List (List Int)) (l:List (List Int)) (c:Int):Prop :=
 (Ma.bJ d ll≠0∧c=Ma.bJ d ll∧l=[]) ∨
  (Ma.bJ d ll=0∧∃ (N:Nat) (gs:List (List Nat)) (O:List (List Nat)) (R:List (List (List Nat))),d=((N:Nat):Int)∧ll=gs.map Ma.ah∧1≤N∧gs.length≤16∧(∀ s∈gs,Gd N s)∧ar N (Cm.Gr N (·∈gs)) O R ∧
   ((5040<bQ O N N∧c=5∧l=[]) ∨
   (bQ O N N≤5040∧c=0∧∃ (st:cF) (S:List (List Nat)),iO (ak gs) N st∧BI N st∧S.Perm st.1∧(S.map Ma.ah).Pairwise (fun a b=>bB b a=false)∧l=S.map (bj st))))
def IH (d:Int) (ll:List (List Int)) (w:World) (ed:Ending) (w':World):Prop:=∃ v l c,ed=.returned (.tuple #[v,.int .i64 c])∧Ba d ll l c∧Rg.Rows w' v l∧Below w.heap.size w w'
theorem ud (w:World):Rg.Rows w (.slice none 0 0) []:=Rg.Rows.nil w none 0 (Nat.zero_le _)
theorem sJ (gv:Value) (d:Int) (ll:List (List Int)) (w:World) (h:Rg.Rows w gv ll) (hd:d≤12∨64<d) :
  Calls Tryz.prog 6 #[.agg #[.int .i64 d,gv]] w (IH d ll w):=by
 obtain ⟨ga,gc,rfl,dS,eF⟩:=GI.enter (d) h;have K:=ι eF;have G0:=ι dS;clear h dS eF
 go_enter Tryz.func6,Tryz.ntmps6
 go_upto_region 0 with fail
 refine b6<|i8 (Rg.ba _ _ rfl rfl)<|i5 rfl<|i4 rfl ?_;go_frame
 obtain ⟨gb,fR⟩:∃ gb,w.heap.size=gb:=⟨_,rfl⟩;rw [fR] at G0 ⊢;generalize w.alloc (.cells #[.int .i64 d,.slice ga ll.length gc] 24)=w0 at *;clear fR;have jq:=ι K.out.size;go_upto_region 1 with fail
 refine b6<|i8 (d8 (.agg #[.int .i64 d,.slice ga ll.length gc]) ⟨gb,0,none⟩ (aT G0.out.c0 G0.out.c1)) ?_;go_frame
 refine d4 9 (aq 17 _ _ rfl rfl (GH _ _)) ?_;refine (po _ d ll w0 G0.out.rows hd).mono ?_;rintro e1 w1 ⟨fa,fn,fc,mo,c,rfl,DS,hb⟩;have SR:=ι DS;have AG:=ι hb.size;clear DS;refine ⟨_,rfl,?_⟩;go_frame;replace G0:=ι (G0.out.below hb);replace K:=ι (Rg.acc K.out hb);clear hb
 refine i3 (.tuple #[.slice fa fn fc,(.map mo),.int .i64 c]) rfl<|i8 (f8 (.slice fa fn fc))<|i8 (f8 ((.map mo)))<|i8 (f8 (.int .i64 c))<|i8 (p8 rfl) ?_;go_frame
 refine i5 rfl<|Rg.aF none rfl rfl (Rg.az _ _ _ rfl _ rfl _ rfl (sI _ (by rw [Rg.aM]; rfl) (dv _ _ _ 0 _))) ?_;go_frame
 have bG:=NB w1 mo 43;have TK:=ι bG.2;have hb:=bG.2;generalize (w1.alloc (.cells #[.map none] 43)).setCell ⟨w1.heap.size,0,none⟩ (.map mo)=w2 at *;replace G0:=ι (G0.out.below hb);replace K:=ι (Rg.acc K.out hb);clear hb;have CB:=ι bG.1;clear bG;refine i4 rfl ?_;go_frame
 rcases SR.out with ⟨h1,rfl,-⟩ | ⟨h1,N,gs,O,R,rfl,rfl,dT,dm,cD,bH,⟨h2,rfl,-⟩ | ⟨h2,rfl,mb,vs,st,rfl,kh,js,hl,nX,yG⟩⟩
 ·skip
  go_upto_region 2 with fail
  refine b6<|i4 rfl<|i8 (d9 (.bool true) .neq (h:=ax _ (decide_eq_true h1))) ?_;go_frame
  go_upto_region 3 with fail
  refine b6<|i4 rfl<|i5 rfl<|i4 rfl ?_;go_frame
  go_wp2
  go_ret2
  exact ⟨_,[],_,rfl,.inl ⟨h1,rfl,rfl⟩,ud _,K.out⟩
 ·skip
  go_upto_region 2 with fail
  refine b6<|i4 rfl<|i8 (d9 (.bool true) .neq (h:=ax _ (decide_eq_true (by decide)))) ?_;go_frame
  go_upto_region 3 with fail
  refine b6<|i4 rfl<|i5 rfl<|i4 rfl ?_;go_frame
  go_wp2
  go_ret2
  exact ⟨_,[],_,rfl,.inr ⟨h1,N,gs,O,R,rfl,rfl,dT,dm,cD,bH,.inl ⟨h2,rfl,rfl⟩⟩,ud _,K.out⟩
 ·skip
  go_upto_region 2 with fail
  refine b6<|i4 rfl<|i8 (d9 (.bool false) .neq (h:=ax _ (decide_eq_false (by decide)))) ?_;go_frame
  have nH:=ι yG;have sK:=ι kh;have ix:=ι js;clear yG kh js SR;have wI:=ι (show w1.heap.size≤w1.heap.size from Nat.le_refl _);have nv:=ι (nH.out.below TK.out);obtain ⟨fb,cap,us,e1,jV,aJ,wX,uO,nD⟩:=nv.out.opened nX;have QI:=nH.out.yt fb (by rw [e1]; rfl);have QJ:=nH.out.lo fb (by rw [e1]; rfl);have Xn:=ι (Nat.le_trans jq.out QJ);clear QJ;simp only [Value.slice.injEq] at e1;obtain ⟨rfl,rfl,rfl⟩:=e1;have Az:=ι QI;clear QI;go_upto_region 4 with fail
  refine b6<|i5 rfl ?_;go_frame
  refine d4 17 (aD 18 _ _ _ rfl rfl rfl (Xm _ _)) ?_;have l9:(st.1.map Ma.ah).length=st.1.length:=List.length_map ..;rw [← l9] at wX ⊢;refine (PI (blk:=fb) jV (fun g=>g.2.2 rfl) nD aJ (by rw [l9]; omega) wX uO).mono ?_;rintro e1 w9 ⟨rfl,A9,hp,GL,GN,hk⟩;refine ⟨_,rfl,?_⟩;rw [l9] at GN ⊢;go_frame
  have TM:(A9.map (List.map Int.toNat)).Perm st.1:=by
   have:=hp.map (List.map Int.toNat)
   rwa [List.map_map,show (List.map Int.toNat ∘ Ma.ah)=id from funext fun x=>pN x,List.map_id] at this
  have Xo:(A9.map (List.map Int.toNat)).map Ma.ah=A9:=by
   rw [List.map_map]
   conv=>rhs; rw [← List.map_id A9]
   refine List.map_congr_left fun y hy=>?_;obtain ⟨x,hx,rfl⟩:=List.mem_map.1 (hp.mem_iff.1 hy);show Ma.ah ((Ma.ah x).map Int.toNat)=Ma.ah x;rw [pN]
  generalize A9.map (List.map Int.toNat)=S at TM Xo;subst Xo;have NC:=ι GN;have GO:=ι TM;have HPW:=ι GL;have HQ:=ι (show xK w9.heap.size w9 mb st vs from ⟨nv.out.map.of_block (hk.block mb nv.out.map.lt (fun e=>nv.out.off (by rw [← e]; rfl))),(nv.out.els.kp hk (fun k g e=>g.2.2 (by rw [e]; rfl))).mono (fun k g=>Nat.lt_of_lt_of_le g.1 hk.size)⟩);have TN:=ι (CB.out.kp hk (fun e=>by have:=Az.out; have:=wI.out; omega));have K9:=ι (tV K.out K.out.size hk (fun k e=>by rw [e]; exact Xn.out));clear GN TM GL hk hp jV aJ wX uO nD l9 CB K;go_upto_region 5 with fail
  refine b6<|i5 rfl<|i8 (kU 21 _ rfl rfl) ?_;go_frame
  refine d4 20 (dN 20 _ _ _ _ rfl rfl rfl rfl (TI _ _)) ?_;refine (GJ NC.out (fun x hx=>GO.out.mem_iff.1 hx) (by rw [GO.out.length_eq]; exact hl) HQ.out ix.out dT (by obtain ⟨D9,_,e9,_,_,_,s5,_⟩:=iz h1; omega) TN.out).mono ?_;rintro e1 aaE ⟨rv,rfl,JH,hb⟩;refine ⟨_,rfl,?_⟩;go_frame;replace TN:=ι (TN.out.below hb);replace K9:=ι (Rg.acc K9.out hb);clear hb
  refine i3 (rv) rfl<|i4 rfl ?_;go_frame
  go_wp2
  go_ret2
  exact ⟨_,_,_,rfl,.inr ⟨h1,N,gs,O,R,rfl,rfl,dT,dm,cD,bH,.inr ⟨h2,rfl,st,S,sK.out,ix.out,GO.out,HPW.out,rfl⟩⟩,JH,K9.out⟩

theorem ND (args:Array Value) (w:World):(callFunc 15 args).run Tryz.prog w=.ok (.enter 15 args) w:=by kernel_rfl
theorem TP (args:Array Value) (w:World):(callFunc 33 args).run Tryz.prog w=.ok (.enter 33 args) w:=by kernel_rfl
theorem NF (args:Array Value) (w:World):(callFunc 6 args).run Tryz.prog w=.ok (.enter 6 args) w:=by kernel_rfl
theorem NG (args:Array Value) (w:World):(callFunc 16 args).run Tryz.prog w=.ok (.enter 16 args) w:=by kernel_rfl
theorem NH (args:Array Value) (w:World):(callFunc 12 args).run Tryz.prog w=.ok (.enter 12 args) w:=by kernel_rfl
theorem Bb (v1 v2:Value) (l1 l2:List (List Int)) (w:World) (h1:Rg.Rows w v1 l1) (h2:Rg.Rows w v2 l2) :
  Calls Tryz.prog 12 #[v1,v2] w fun e w'=>e=.returned (.bool (decide (l1=l2)))∧∃ k,w'=w.drewN k:=by
 obtain ⟨a1,c1,rfl,n1,m1,_,k1⟩:=h1.shape;obtain ⟨a2,c2,rfl,n2,m2,_,k2⟩:=h2.shape;clear h1 h2;have K1:=ι k1;have K2:=ι k2;clear k1 k2;generalize hD:decide (l1=l2)=D;have HD:=ι hD;clear hD
 by_cases hl:l1.length=l2.length
 ·have hb:((l1.length:Int) != (l2.length:Int))=false:=by rw [hl]; simp
  have Hl:=ι hl;clear hl
  go_enter Tryz.func12,Tryz.ntmps12
  go_wp2;clear hb
  go_loopw [5] (fun v wr=>∃ i:Nat,v=.int .i64 i∧i≤l1.length∧Hid (∃ k,wr=w.drewN k)∧Hid (l1.take i=l2.take i)) (fun v _=>l1.length - (intOf v).toNat)
  case atStart=>exact ⟨0,rfl,by omega,⟨0,rfl⟩,by show _=_; simp⟩
  case round =>
   obtain ⟨i,rfl,hi,hw,hs⟩:=hrel
   by_cases aJ:i<l1.length
   ·have eE:i<l2.length:=by have:=Hl.out; omega
    obtain ⟨b1,o1,rfl,cV,d1⟩:=K1.out (by omega);obtain ⟨b2,o2,rfl,df,d2⟩:=K2.out (by omega);obtain ⟨u1,y1,nn⟩:=d1 i aJ;obtain ⟨u2,y2,ow⟩:=d2 i eE
    have x1:wr.cell? ⟨b1,o1+i,none⟩=some u1:=by obtain ⟨k,e⟩:=hw.out; rw [e]; exact y1
    have x2:wr.cell? ⟨b2,o2+i,none⟩=some u2:=by obtain ⟨k,e⟩:=hw.out; rw [e]; exact y2
    have kN:(i:Int)<(l2.length:Int):=by omega
    generalize hx:l1[i]=x at nn;generalize hy:l2[i]=y at ow;have Hx:=ι hx;have Hy:=ι hy;clear d1 d2 hx hy y1 y2;have hq:∀ n,_:=fun n=>vA u1 u2 x y (wr.drewN n) (by obtain ⟨k,e⟩:=hw.out; rw [e]; exact nn) (by obtain ⟨k,e⟩:=hw.out; rw [e]; exact ow)
    by_cases he:x=y
    ·have hdd:decide (x=y)=true:=decide_eq_true he
     have He:=ι he;rw [hdd] at hq;have Hq:=ι hq;clear he hdd hq;go_wp2
     go_quiet ((go_at_call 13; exact Calls.quiet_of (Hq.out _)))
     go_wp2
     go_roundw
     case rel=>exact ⟨i+1,by go_num,by omega,by obtain ⟨k,e⟩:=hw.out; rw [e]; exact ⟨_,World.drewN_drewN _ _ _⟩,by show _=_; rw [List.take_succ_eq_append_getElem aJ,List.take_succ_eq_append_getElem eE,hs.out,Hx.out,Hy.out,He.out]⟩
     case measure=>simp [intOf]; omega
    ·have hdd:decide (x=y)=false:=decide_eq_false he
     have He:=ι he;rw [hdd] at hq;have Hq:=ι hq;clear he hdd hq;go_wp2
     go_quiet ((go_at_call 13; exact Calls.quiet_of (Hq.out _)))
     go_wp2;go_ret;exact ⟨Rg.cG (by rw [← HD.out]; symm; rw [decide_eq_false_iff_not]; intro hc; subst hc; exact He.out (Hx.out.symm.trans Hy.out)),by obtain ⟨k,e⟩:=hw.out; rw [e]; exact ⟨_,World.drewN_drewN _ _ _⟩⟩
   ·go_wp2
    go_ret;refine ⟨Rg.cG ?_,hw.out⟩;rw [← HD.out]; symm;rw [decide_eq_true_eq];have h1:=hs.out
    rwa [List.take_of_length_le (by omega),List.take_of_length_le (by have:=Hl.out; omega)] at h1
 ·have hb:((l1.length:Int) != (l2.length:Int))=true:=by rw [bne_iff_ne]; omega
  have Hl:=ι hl;clear hl
  go_enter Tryz.func12,Tryz.ntmps12
  go_wp2;go_ret;exact ⟨Rg.cG (by rw [← HD.out]; symm; rw [decide_eq_false_iff_not]; intro hc; subst hc; exact Hl.out rfl),0,rfl⟩
theorem sL {l1 l2:List (List Int)} {w:World} {b:Bool} (h1:Rg.Rows w v1 l1) (h2:Rg.Rows w v2 l2) (hd:Hid (decide (l1=l2)=b)) :
  Calls Tryz.prog 12 #[v1,v2] w fun e w'=>e=.returned (.bool b)∧Below w.heap.size w w':=by
 refine (Bb v1 v2 l1 l2 w h1 h2).mono ?_;rintro e w' ⟨rfl,k,rfl⟩;exact ⟨by rw [hd.out],Rg.drewN (Below.refl _ _) k⟩
theorem sM (w:World):Calls Tryz.prog 15 #[] w (Q1 3 [[1,0,2],[0,2,1]] w):=by
 go_enter Tryz.func15,Tryz.ntmps15
 go_upto_region 1 with fail;generalize hW:w.alloc (.cells #[.int .i64 0,.slice none 0 0] 24)=W0
 have dn:W0.heap.size=w.heap.size+1:=by rw [← hW]; simp
 have hbW:Below w.heap.size w W0:=by rw [← hW]; exact (Below.refl _ _).alloc (Nat.le_refl _) _
 have eJ:W0.cell? ⟨w.heap.size,0,none⟩=some (.int .i64 0):=by rw [← hW,Rg.aM]; rfl
 have iX:W0.cell? ⟨w.heap.size,1,none⟩=some (.slice none 0 0):=by rw [← hW,Rg.aM]; rfl
 have uV:∀ o,W0.frozen? ⟨w.heap.size,o,none⟩=false:=fun o=>by rw [← hW]; exact dv _ _ _ 0 _
 clear hW;refine b6 ?_;have i1:=fq W0 3 [1,0,2] (by decide);have b1:Below W0.heap.size W0 _:=(Below.refl W0.heap.size W0).alloc (Nat.le_refl _) (.cells (([1,0,2]:List Int).map (Value.int .i64)).toArray 3);refine i8 (er _ _ 3 _ rfl [1,0,2] Tryz.underlying26 kO oH rfl (by decide) (by decide) rfl) ?_;go_frame;generalize W0.alloc (.cells (([1,0,2]:List Int).map (Value.int .i64)).toArray 3)=W1 at *;have i2:=fq W1 3 [0,2,1] (by decide);have b2:Below W1.heap.size W1 _:=(Below.refl W1.heap.size W1).alloc (Nat.le_refl _) (.cells (([0,2,1]:List Int).map (Value.int .i64)).toArray 3);refine i8 (er _ _ 3 _ rfl [0,2,1] Tryz.underlying26 kO oH rfl (by decide) (by decide) rfl) ?_;go_frame;generalize W1.alloc (.cells (([0,2,1]:List Int).map (Value.int .i64)).toArray 3)=W2 at *
 have g3:=Et (B:=w.heap.size+1) (w:=W2) 26 [.slice (some ⟨W0.heap.size,0,none⟩) 3 3,.slice (some ⟨W1.heap.size,0,none⟩) 3 3] [[1,0,2],[0,2,1]] rfl (by simp) (by
  have s1:=b1.size;have s2:=b2.size;intro i h h2
  match i,h,h2 with
  | 0,_,_=>exact ⟨(i1.below b2),(Rg.cL.mk _ _ _ _).mono (by omega)⟩
  | 1,_,_=>exact ⟨i2,(Rg.cL.mk _ _ _ _).mono (by omega)⟩) (by have s1:=b1.size; have s2:=b2.size; omega)
 have bz:Below W2.heap.size W2 _:=(Below.refl W2.heap.size W2).alloc (Nat.le_refl _) (.cells #[.slice (some ⟨W0.heap.size,0,none⟩) 3 3,.slice (some ⟨W1.heap.size,0,none⟩) 3 3] 26);refine i8 (z7 (u1:=.slice (some ⟨W0.heap.size,0,none⟩) 3 3) (u2:=.slice (some ⟨W1.heap.size,0,none⟩) 3 3) _ _ rfl rfl rfl (zZ _ _ _ ⟨_,_,_,rfl⟩ ⟨_,_,_,rfl⟩)) ?_;go_frame;have tZ:=(Rg.acc b1 (Rg.acc b2 bz));clear bz b1 i1 b2 i2;have g4:eG (w.heap.size+1) (W2.alloc (.cells #[.slice (some ⟨W0.heap.size,0,none⟩) 3 3,.slice (some ⟨W1.heap.size,0,none⟩) 3 3] 26)) (.slice (some ⟨W2.heap.size,0,none⟩) 2 2) [[1,0,2],[0,2,1]]:=g3;clear g3;generalize W2.alloc (.cells #[.slice (some ⟨W0.heap.size,0,none⟩) 3 3,.slice (some ⟨W1.heap.size,0,none⟩) 3 3] 26)=Z at *;refine i8 (z8 (d:=3) _ _ rfl rfl rfl) ?_;go_frame;obtain ⟨kc,kf⟩:=Rg.ng tZ
 have yt:w.heap.size<W0.heap.size:=by omega
 have r0:=(kc _ 0 yt).trans eJ;have r1:=(kc _ 1 yt).trans iX;have rf:=fun o=>(kf _ o yt).trans (uV o);obtain ⟨p0,p1,p2⟩:=qf (.int .i64 3) (.slice (some ⟨W2.heap.size,0,none⟩) 2 2) r0 r1 (Rg.acc hbW tZ) (by omega);have hR:=((g4.set w.heap.size 0 (.int .i64 3) (by omega)).set w.heap.size 1 (.slice (some ⟨W2.heap.size,0,none⟩) 2 2) (by omega)).mono (B':=w.heap.size) (by omega);refine Rg.aF none rfl rfl (Rg.az _ _ _ rfl _ rfl _ rfl (oG 3 _ 2 2 r0 r1 (rf 0) (rf 1))) ?_;go_frame;generalize (Z.setCell ⟨w.heap.size,0,none⟩ (.int .i64 3)).setCell ⟨w.heap.size,1,none⟩ (.slice (some ⟨W2.heap.size,0,none⟩) 2 2)=W6 at *;have H:=ι (And.intro p0 (And.intro p1 (And.intro p2 hR)));clear eJ iX uV kc kf r0 r1 rf p0 p1 p2 hR g4;go_wp2;exact bodyPost_ret (vT rfl _ rfl H.out.1 H.out.2.1) rfl ⟨_,_,_,rfl,H.out.2.2.2,H.out.2.2.1⟩
theorem vF (args:Array Value) (w:World):(callFunc 14 args).run Tryz.prog w=.ok (.enter 14 args) w:=by kernel_rfl
def sN (d:Int) (ll:List (List Int)):Bool:=lg ll || (decide (8<d) && decide (d≤64))
theorem nN (gv:Value) (d:Int) (ll:List (List Int)) (w:World) (h:Rg.gD B w gv ll) :
  Calls Tryz.prog 4 #[.agg #[.int .i64 d,gv]] w fun e w'=>e=.returned (.bool (sN d ll))∧Below w.heap.size w w':=by
 obtain ⟨ga,gc,rfl,_⟩:=h.shape;have H:=ι h;clear h;have K:=ι (Below.refl w.heap.size w)
 go_enter Tryz.func4,Tryz.ntmps4
 obtain ⟨bl,xM⟩:∃ b,Hid (lg ll=b):=⟨_,ι rfl⟩;go_upto_region 0 with fail;refine b6 ?_;have bG:=MT w (.int .i64 d) (.slice ga ll.length gc) 24;refine i8 (Rg.ba _ _ rfl rfl) ?_;go_frame;have hb:=(Below.refl w.heap.size w).alloc (Nat.le_refl _) (.cells #[.int .i64 d,.slice ga ll.length gc] 24);generalize w.alloc (.cells #[.int .i64 d,.slice ga ll.length gc] 24)=w1 at *;replace H:=ι (H.out.below hb);replace K:=ι (Rg.acc K.out hb);clear hb;have A0:=ι bG.1;have A1:=ι bG.2;clear bG;refine i7 rfl ?_;go_frame
 cases bl with
 | true =>
  go_upto_region 1 with fail
  refine b6<|i8 (d8 (.agg #[.int .i64 d,.slice ga ll.length gc]) ⟨w.heap.size,0,none⟩ (aT A0.out.cell A1.out.cell)) ?_;go_frame
  refine d4 4 (aq 14 _ _ rfl rfl (vF _ _)) ?_;refine (iF _ d ll w1 H.out).mono ?_;rintro e1 w2 ⟨rfl,hb⟩;rw [xM.out];refine ⟨_,rfl,?_⟩;go_frame;replace H:=ι (H.out.below hb);replace A0:=ι (A0.out.below hb);replace A1:=ι (A1.out.below hb);replace K:=ι (Rg.acc K.out hb);clear hb
  refine i7 rfl<|d7 6<|d7 7<|d7 8<|d7 9 ?_;go_frame
  refine d7 10<|d7 11<|d7 12<|d7 13<|i8 (f7 (.bool true)) ?_;go_frame
  refine i7 rfl ?_;go_frame;have HR:=ι (show sN d ll=true by unfold sN; rw [xM.out]; simp; try omega);go_wp2;go_ret;exact ⟨by rw [HR.out]; rfl,K.out⟩
 | false =>
  by_cases Pf:8<d
  ·by_cases Pg:d≤64
   ·skip
    go_upto_region 1 with fail
    refine b6<|i8 (d8 (.agg #[.int .i64 d,.slice ga ll.length gc]) ⟨w.heap.size,0,none⟩ (aT A0.out.cell A1.out.cell)) ?_;go_frame
    refine d4 4 (aq 14 _ _ rfl rfl (vF _ _)) ?_;refine (iF _ d ll w1 H.out).mono ?_;rintro e1 eK ⟨rfl,hb⟩;rw [xM.out];refine ⟨_,rfl,?_⟩;go_frame;replace H:=ι (H.out.below hb);replace A0:=ι (A0.out.below hb);replace A1:=ι (A1.out.below hb);replace K:=ι (Rg.acc K.out hb);clear hb
    refine i7 rfl<|i8 (bL _ rfl rfl)<|i8 (d8 (.int .i64 d) ⟨w.heap.size,0,none⟩ (af A0.out.cell))<|i8 (d9 (.bool true) .gtr (h:=cw _ d5))<|i7 rfl ?_;go_frame
    refine i8 (bL _ rfl rfl)<|i8 (d8 (.int .i64 d) ⟨w.heap.size,0,none⟩ (af A0.out.cell))<|i8 (d9 (.bool true) .leq (h:=Ag _ d5))<|i8 (f7 (.bool true))<|i8 (f4 (.bool true)) ?_;go_frame
    refine i7 rfl ?_;go_frame;have HR:=ι (show sN d ll=true by unfold sN; rw [xM.out]; simp; try omega);go_wp2;go_ret;exact ⟨by rw [HR.out]; rfl,K.out⟩
   ·skip
    go_upto_region 1 with fail
    refine b6<|i8 (d8 (.agg #[.int .i64 d,.slice ga ll.length gc]) ⟨w.heap.size,0,none⟩ (aT A0.out.cell A1.out.cell)) ?_;go_frame
    refine d4 4 (aq 14 _ _ rfl rfl (vF _ _)) ?_;refine (iF _ d ll w1 H.out).mono ?_;rintro e1 pT ⟨rfl,hb⟩;rw [xM.out];refine ⟨_,rfl,?_⟩;go_frame;replace H:=ι (H.out.below hb);replace A0:=ι (A0.out.below hb);replace A1:=ι (A1.out.below hb);replace K:=ι (Rg.acc K.out hb);clear hb
    refine i7 rfl<|i8 (bL _ rfl rfl)<|i8 (d8 (.int .i64 d) ⟨w.heap.size,0,none⟩ (af A0.out.cell))<|i8 (d9 (.bool true) .gtr (h:=cw _ d5))<|i7 rfl ?_;go_frame
    refine i8 (bL _ rfl rfl)<|i8 (d8 (.int .i64 d) ⟨w.heap.size,0,none⟩ (af A0.out.cell))<|i8 (d9 (.bool false) .leq (h:=Ag _ d6))<|i8 (f7 (.bool false))<|i8 (f4 (.bool false)) ?_;go_frame
    refine i7 rfl ?_;go_frame;have HR:=ι (show sN d ll=false by unfold sN; rw [xM.out]; simp; try omega);go_wp2;go_ret;exact ⟨by rw [HR.out]; rfl,K.out⟩
  ·skip
   go_upto_region 1 with fail
   refine b6<|i8 (d8 (.agg #[.int .i64 d,.slice ga ll.length gc]) ⟨w.heap.size,0,none⟩ (aT A0.out.cell A1.out.cell)) ?_;go_frame
   refine d4 4 (aq 14 _ _ rfl rfl (vF _ _)) ?_;refine (iF _ d ll w1 H.out).mono ?_;rintro e1 w35 ⟨rfl,hb⟩;rw [xM.out];refine ⟨_,rfl,?_⟩;go_frame;replace H:=ι (H.out.below hb);replace A0:=ι (A0.out.below hb);replace A1:=ι (A1.out.below hb);replace K:=ι (Rg.acc K.out hb);clear hb
   refine i7 rfl<|i8 (bL _ rfl rfl)<|i8 (d8 (.int .i64 d) ⟨w.heap.size,0,none⟩ (af A0.out.cell))<|i8 (d9 (.bool false) .gtr (h:=cw _ d6))<|i7 rfl ?_;go_frame
   refine d7 10<|d7 11<|d7 12<|i8 (f4 (.bool false))<|i8 (f4 (.bool false)) ?_;go_frame
   refine i7 rfl ?_;go_frame;have HR:=ι (show sN d ll=false by unfold sN; rw [xM.out]; simp; try omega);go_wp2;go_ret;exact ⟨by rw [HR.out]; rfl,K.out⟩
def G3:List (List Nat):=[[1,0,2],[0,2,1]]
theorem NI:Ma.bJ 3 [[1,0,2],[0,2,1]]=0:=by decide
theorem bf3:iO (ak G3) 3 (aI (ak G3) 3 6):=⟨6,rfl,by decide +kernel⟩
theorem ue {S T:List (List Nat)} (h:S.Perm T) (hs:(S.map Ma.ah).Pairwise (fun a b=>bB b a=false)) (ht:(T.map Ma.ah).Pairwise (fun a b=>bB b a=false)):S=T:=by
 refine cX ?_;refine List.Perm.eq_of_pairwise (le:=fun a b=>bB b a=false) ?_ hs ht (h.map _);intro a b _ _ h1 h2
 by_cases e:a=b
 ·exact e
 ·have:=jm h2 e
  rw [h1] at this; cases this
theorem GP {l:List (List Int)} {c:Int} (h:Ba 3 [[1,0,2],[0,2,1]] l c):l=[[],[2],[1],[2,1],[1,2],[1,2,1]]∧c=0:=by
 rcases h with ⟨h,_⟩ | ⟨_,N,gs,O,R,e1,e2,dT,dm,cD,bH,⟨h2,_⟩ | ⟨h2,rfl,st,S,kh,js,hp,GL,rfl⟩⟩
 ·exact absurd NI h
 ·exfalso
  obtain rfl:N=3:=by omega
  have h7:=Gm (Cm.Gr.fW cD) bH (by decide) (Nat.le_refl 3);rw [xD bH] at h7;omega
 ·obtain rfl:N=3:=by omega
  have e3:G3=gs:=cX (show G3.map Ma.ah=gs.map Ma.ah from e2);subst e3;have:=kh.uniq bf3;subst this
  have hS:S=[[0,1,2],[0,2,1],[1,0,2],[1,2,0],[2,0,1],[2,1,0]]:=by
   have h0:([[0,1,2],[0,2,1],[1,0,2],[1,2,0],[2,0,1],[2,1,0]]:List (List Nat)).Perm (aI (ak G3) 3 6).1:=by decide +kernel
   exact ue (hp.trans h0.symm) GL (by decide +kernel)
  subst hS;exact ⟨by decide +kernel,rfl⟩
theorem GW {u:List Int} (hu:u.length≤4000) (ho:okW 2 u) (hl:l=Ma.ah (vp 3 G3 u)):Nu 3 [[1,0,2],[0,2,1]] u l 0 :=
 .inr (.inr (.inr ⟨NI,hu,ho,3,G3,rfl,rfl,rfl,hl⟩))
theorem Bc (X:World) (u1 u2 u3 u4 u5 u6:Value) (h1:∃ a n c,u1=.slice a n c) (h2:∃ a n c,u2=.slice a n c) (h3:∃ a n c,u3=.slice a n c) (h4:∃ a n c,u4=.slice a n c) (h5:∃ a n c,u5=.slice a n c) (h6:∃ a n c,u6=.slice a n c) :
  (Instr.buildSlice 29 6 #[(0,u1),(1,u2),(2,u3),(3,u4),(4,u5),(5,u6)]).run Tryz.prog X=.ok (.slice (some ⟨X.heap.size,0,none⟩) 6 6) (X.alloc (.cells #[u1,u2,u3,u4,u5,u6] 35)):=by
 obtain ⟨i0,hi,dc,bM,eY⟩:=info_parts jQ;obtain ⟨_,_,_,rfl⟩:=h1;obtain ⟨_,_,_,rfl⟩:=h2;obtain ⟨_,_,_,rfl⟩:=h3;obtain ⟨_,_,_,rfl⟩:=h4;obtain ⟨_,_,_,rfl⟩:=h5;obtain ⟨_,_,_,rfl⟩:=h6;refine run_buildSlice X 29 35 6 _ _ i0 _ Tryz.underlying29 hi dc (by rw [bM]; decide) (by rw [bM]; decide) ?_;generalize (fun x=>((Value.slice none 0 0).cells)[x % (Value.slice none 0 0).cells.size]!)=f;rw [bM];have h1:Array.range (6*1)=#[0,1,2,3,4,5]:=rfl;simp [Instr.fill,Value.cells,h1]
theorem yS {o:Oper} {a:Act} {w:World} {v u4 u5 u6:Value} (x1 x2 x3 x4 x5 x6:Operand) (ho:o.op=.buildSlice 29 6 #[(0,x1),(1,x2),(2,x3),(3,x4),(4,x5),(5,x6)]) (h1:a.eval x1=u1) (h2:a.eval x2=u2) (h3:a.eval x3=u3) (h4:a.eval x4=u4) (h5:a.eval x5=u5) (h6:a.eval x6=u6)
  (hr:(Instr.buildSlice 29 6 #[(0,u1),(1,u2),(2,u3),(3,u4),(4,u5),(5,u6)]).run Tryz.prog w=.ok v w'):(execOp a.eval o).run Tryz.prog w=.ok (.value v) w':=by
 subst h1 h2 h3 h4 h5 h6;unfold execOp;simp only [ho,Sem.run_bind,Sem.run_pure];simp only [List.map_toArray,List.map_cons,List.map_nil];rw [hr];rfl
theorem PJ {u4 u5 u6:Value} {l3 l4 l5 l6:List Int} (h1:b_ W u1 l1) (h2:b_ W u2 l2) (h3:b_ W u3 l3) (h4:b_ W u4 l4) (h5:b_ W u5 l5) (h6:b_ W u6 l6) :
  Rg.Rows (W.alloc (.cells #[u1,u2,u3,u4,u5,u6] 35)) (.slice (some ⟨W.heap.size,0,none⟩) 6 6) [l1,l2,l3,l4,l5,l6]:=by
 have hb:Below W.heap.size W (W.alloc (.cells #[u1,u2,u3,u4,u5,u6] 35)):=(Below.refl _ _).alloc (Nat.le_refl _) _;refine ⟨[u1,u2,u3,u4,u5,u6],Rg.fP.zd (Rg.fP.new W [u1,u2,u3,u4,u5,u6] 35 (Nat.le_refl _)) (by simp),rfl,fun i a b=>?_⟩
 match i,a,b with
 | 0,_,_=>exact (h1.below hb).i
 | 1,_,_=>exact (h2.below hb).i
 | 2,_,_=>exact (h3.below hb).i
 | 3,_,_=>exact (h4.below hb).i
 | 4,_,_=>exact (h5.below hb).i
 | 5,_,_=>exact (h6.below hb).i
theorem xN {wv:Value} {u:List Int} {w:World} (hu:Rg.Ints w wv u) (hx:Rg.Ints w xv l) (kZ:u.length≤4000) (ho:okW 2 u) (hl:l=Ma.ah (vp 3 G3 u)) :
  Calls Tryz.prog 16 #[wv,xv] w fun e w'=>e=.returned (.bool true)∧Below w.heap.size w w':=by
 obtain ⟨wa,wc,rfl,-⟩:=hu.shape;obtain ⟨xa,xc,rfl,-⟩:=hx.shape;have HV:=ι (GW kZ ho hl);have HU:=ι (b_.mk hu);have HX:=ι (b_.mk hx);have K:=ι (Below.refl w.heap.size w);clear hu hx hl ho
 go_enter Tryz.func16,Tryz.ntmps16
 go_upto_region 0 with fail
 refine b6<|i7 rfl ?_;go_frame
 go_upto_region 1 with fail;refine b6 ?_;refine d4 8 (kI 15 _ rfl (ND _ _)) ?_;refine (sM w).mono ?_;rintro e1 w1 ⟨ga,gn,gc,rfl,nY,hb⟩;have DT:=nY.rows;refine ⟨_,rfl,?_⟩;go_frame;replace HU:=ι (HU.out.below hb);replace HX:=ι (HX.out.below hb);replace K:=ι (Rg.acc K.out hb);clear hb;have GR:=ι (lI.mk DT);refine i5 rfl ?_;go_frame;clear nY DT;refine d4 10 (aD 33 _ _ _ rfl rfl rfl (TP _ _)) ?_;refine (DQ _ _ 3 [[1,0,2],[0,2,1]] u w1 GR.out.r HU.out.i).mono ?_;rintro e1 w2 ⟨rv,rl,rc,rfl,NJ,jP,hb⟩;obtain ⟨rfl,rfl⟩:=HV.out.uniq NJ;obtain ⟨ra,rcc,rfl,-⟩:=jP.shape;clear NJ;refine ⟨_,rfl,?_⟩;go_frame;replace HU:=ι (HU.out.below hb);replace HX:=ι (HX.out.below hb);replace GR:=ι (GR.out.below hb);replace K:=ι (Rg.acc K.out hb);clear hb;have HR:=ι (b_.mk jP)
 refine i3 (.tuple #[.slice ra l.length rcc,.int .i64 0]) rfl<|i8 (f8 (.slice ra l.length rcc))<|i8 (f8 (.int .i64 0))<|i5 rfl<|i4 rfl ?_;go_frame
 clear jP GR;go_upto_region 2 with fail
 refine b6<|i5 rfl<|i5 rfl ?_;go_frame
 refine d4 15 (aD 13 _ _ _ rfl rfl rfl (Ay _ _)) ?_;refine (mC (w0:=w2) (b:=true) HR.out.i HX.out.i (ι (decide_eq_true rfl)) (Below.refl _ _)).mono ?_;rintro e1 w3 ⟨rfl,hb⟩;refine ⟨_,rfl,?_⟩;go_frame;replace HU:=ι (HU.out.below hb);replace HX:=ι (HX.out.below hb);replace HR:=ι (HR.out.below hb);replace K:=ι (Rg.acc K.out hb);clear hb
 refine i7 rfl<|i4 rfl<|i8 (zf _ _ rfl rfl rfl rfl)<|i8 (f7 (.bool true))<|i7 rfl ?_;go_frame
 go_wp2;go_ret;exact ⟨rfl,K.out⟩
theorem kF (w:World):Calls Tryz.prog 5 #[] w fun e w'=>e=.returned (.bool true)∧Below w.heap.size w w':=by
 have K:=ι (Below.refl w.heap.size w)
 go_enter Tryz.func5,Tryz.ntmps5
 go_upto_region 0 with fail
 refine b6<|i7 rfl ?_;go_frame
 go_upto_region 1 with fail;refine b6 ?_;refine d4 4 (kI 15 _ rfl (ND _ _)) ?_;refine (sM w).mono ?_;rintro e1 w1 ⟨ga,gn,gc,rfl,nY,hb⟩;have DT:=nY.rows;refine ⟨_,rfl,?_⟩;go_frame;replace K:=ι (Rg.acc K.out hb);clear hb;have GR:=ι (lI.mk DT);clear nY DT;refine d4 5 (aq 6 _ _ rfl rfl (NF _ _)) ?_;refine (sJ _ 3 [[1,0,2],[0,2,1]] w1 GR.out.r (by decide)).mono ?_;rintro e1 w2 ⟨rv,rl,rc,rfl,NJ,jP,hb⟩;obtain ⟨rfl,rfl⟩:=GP NJ;obtain ⟨ra,rcc,cK,-⟩:=jP.shape;rw [show ([[],[2],[1],[2,1],[1,2],[1,2,1]]:List (List Int)).length=6 from rfl] at cK;subst cK;clear NJ;refine ⟨_,rfl,?_⟩;go_frame;replace GR:=ι (GR.out.below hb);replace K:=ι (Rg.acc K.out hb);clear hb;have WR:=ι (lI.mk jP)
 refine i3 (.tuple #[.slice ra 6 rcc,.int .i64 0]) rfl<|i8 (f8 (.slice ra 6 rcc))<|i8 (f8 (.int .i64 0))<|i5 rfl<|i4 rfl ?_;go_frame
 clear jP GR;go_upto_region 2 with fail;refine b6 ?_;have bA:=fq w2 3 [1,2] (by decide);refine i8 (er _ _ 2 _ rfl [1,2] Tryz.underlying35 kO oH rfl (by decide) (by decide) rfl) ?_;go_frame;have hb:=(Below.refl w2.heap.size w2).alloc (Nat.le_refl _) (.cells (([1,2]:List Int).map (Value.int .i64)).toArray 3);generalize w2.alloc (.cells (([1,2]:List Int).map (Value.int .i64)).toArray 3)=w3 at *;replace WR:=ι (WR.out.below hb);replace K:=ι (Rg.acc K.out hb);clear hb;have A1:=ι bA;clear bA;have bA:=fq w3 3 [2,0,1] (by decide);refine i8 (er _ _ 3 _ rfl [2,0,1] Tryz.underlying26 kO oH rfl (by decide) (by decide) rfl) ?_;go_frame;have hb:=(Below.refl w3.heap.size w3).alloc (Nat.le_refl _) (.cells (([2,0,1]:List Int).map (Value.int .i64)).toArray 3);generalize w3.alloc (.cells (([2,0,1]:List Int).map (Value.int .i64)).toArray 3)=w4 at *
 replace WR:=ι (WR.out.below hb);replace A1:=ι (A1.out.below hb);replace K:=ι (Rg.acc K.out hb);clear hb;have A2:=ι bA;clear bA;refine d4 10 (aD 16 _ _ _ rfl rfl rfl (NG _ _)) ?_;refine (xN A1.out A2.out (by decide) (by unfold okW; decide) (by decide +kernel)).mono ?_;rintro e1 w5 ⟨rfl,hb⟩;refine ⟨_,rfl,?_⟩;go_frame;replace WR:=ι (WR.out.below hb);replace A1:=ι (A1.out.below hb);replace A2:=ι (A2.out.below hb);replace K:=ι (Rg.acc K.out hb);clear hb;refine i7 rfl ?_;go_frame;have bA:=fq w5 3 [2,1] (by decide);refine i8 (er _ _ 2 _ rfl [2,1] Tryz.underlying35 kO oH rfl (by decide) (by decide) rfl) ?_;go_frame;have hb:=(Below.refl w5.heap.size w5).alloc (Nat.le_refl _) (.cells (([2,1]:List Int).map (Value.int .i64)).toArray 3);generalize w5.alloc (.cells (([2,1]:List Int).map (Value.int .i64)).toArray 3)=w6 at *
 replace WR:=ι (WR.out.below hb);replace A1:=ι (A1.out.below hb);replace A2:=ι (A2.out.below hb);replace K:=ι (Rg.acc K.out hb);clear hb;have A3:=ι bA;clear bA;have bA:=fq w6 3 [1,2,0] (by decide);refine i8 (er _ _ 3 _ rfl [1,2,0] Tryz.underlying26 kO oH rfl (by decide) (by decide) rfl) ?_;go_frame;have hb:=(Below.refl w6.heap.size w6).alloc (Nat.le_refl _) (.cells (([1,2,0]:List Int).map (Value.int .i64)).toArray 3);generalize w6.alloc (.cells (([1,2,0]:List Int).map (Value.int .i64)).toArray 3)=w7 at *;replace WR:=ι (WR.out.below hb);replace A1:=ι (A1.out.below hb);replace A2:=ι (A2.out.below hb);replace A3:=ι (A3.out.below hb);replace K:=ι (Rg.acc K.out hb);clear hb;have A4:=ι bA;clear bA;refine dB (some 14) rfl rfl _ _ (aD 16 _ _ _ rfl rfl rfl (NG _ _)) ?_;refine (xN A3.out A4.out (by decide) (by unfold okW; decide) (by decide +kernel)).mono ?_
 rintro e1 w8 ⟨rfl,hb⟩;refine ⟨_,rfl,?_⟩;go_frame;replace WR:=ι (WR.out.below hb);replace A1:=ι (A1.out.below hb);replace A2:=ι (A2.out.below hb);replace A3:=ι (A3.out.below hb);replace A4:=ι (A4.out.below hb);replace K:=ι (Rg.acc K.out hb);clear hb
 refine i8 (f7 (.bool true))<|i7 rfl<|i4 rfl<|i8 (zf _ _ rfl rfl rfl rfl)<|i8 (f7 (.bool true)) ?_;go_frame
 refine i7 rfl<|i5 rfl ?_;go_frame
 have Bz:b_ (w8.alloc (.cells #[] 3)) (.slice (some ⟨w8.heap.size,0,none⟩) 0 0) []:=b_.mk (EX.nil (mb:=0) (fv:=.slice none 0 0) _).ints;refine i8 (Rg.fI fK rfl w8) ?_;go_frame;have hb:=(Below.refl w8.heap.size w8).alloc (Nat.le_refl _) (.cells #[] 3);generalize w8.alloc (.cells #[] 3)=w9 at *;replace WR:=ι (WR.out.below hb);replace A1:=ι (A1.out.below hb);replace A2:=ι (A2.out.below hb);replace A3:=ι (A3.out.below hb);replace A4:=ι (A4.out.below hb);replace K:=ι (Rg.acc K.out hb);clear hb;have B0:=ι Bz;clear Bz;have bA:=fq w9 3 [2] (by decide);refine i8 (er _ _ 1 _ rfl [2] Tryz.underlying35 kO oH rfl (by decide) (by decide) rfl) ?_;go_frame;have hb:=(Below.refl w9.heap.size w9).alloc (Nat.le_refl _) (.cells (([2]:List Int).map (Value.int .i64)).toArray 3);generalize w9.alloc (.cells (([2]:List Int).map (Value.int .i64)).toArray 3)=vd at *
 replace WR:=ι (WR.out.below hb);replace A1:=ι (A1.out.below hb);replace A2:=ι (A2.out.below hb);replace A3:=ι (A3.out.below hb);replace A4:=ι (A4.out.below hb);replace B0:=ι (B0.out.below hb);replace K:=ι (Rg.acc K.out hb);clear hb;have B1:=ι bA;clear bA;have bA:=fq vd 3 [1] (by decide);refine i8 (er _ _ 1 _ rfl [1] Tryz.underlying35 kO oH rfl (by decide) (by decide) rfl) ?_;go_frame;have hb:=(Below.refl vd.heap.size vd).alloc (Nat.le_refl _) (.cells (([1]:List Int).map (Value.int .i64)).toArray 3);generalize vd.alloc (.cells (([1]:List Int).map (Value.int .i64)).toArray 3)=gC at *;replace WR:=ι (WR.out.below hb);replace A1:=ι (A1.out.below hb);replace A2:=ι (A2.out.below hb);replace A3:=ι (A3.out.below hb);replace A4:=ι (A4.out.below hb);replace B0:=ι (B0.out.below hb);replace B1:=ι (B1.out.below hb);replace K:=ι (Rg.acc K.out hb)
 clear hb;have B2:=ι bA;clear bA;have bA:=fq gC 3 [2,1] (by decide);refine i8 (er _ _ 2 _ rfl [2,1] Tryz.underlying35 kO oH rfl (by decide) (by decide) rfl) ?_;go_frame;have hb:=(Below.refl gC.heap.size gC).alloc (Nat.le_refl _) (.cells (([2,1]:List Int).map (Value.int .i64)).toArray 3);generalize gC.alloc (.cells (([2,1]:List Int).map (Value.int .i64)).toArray 3)=l8 at *;replace WR:=ι (WR.out.below hb);replace A1:=ι (A1.out.below hb);replace A2:=ι (A2.out.below hb);replace A3:=ι (A3.out.below hb);replace A4:=ι (A4.out.below hb);replace B0:=ι (B0.out.below hb);replace B1:=ι (B1.out.below hb);replace B2:=ι (B2.out.below hb);replace K:=ι (Rg.acc K.out hb);clear hb;have B3:=ι bA;clear bA;have bA:=fq l8 3 [1,2] (by decide);refine i8 (er _ _ 2 _ rfl [1,2] Tryz.underlying35 kO oH rfl (by decide) (by decide) rfl) ?_;go_frame
 have hb:=(Below.refl l8.heap.size l8).alloc (Nat.le_refl _) (.cells (([1,2]:List Int).map (Value.int .i64)).toArray 3);generalize l8.alloc (.cells (([1,2]:List Int).map (Value.int .i64)).toArray 3)=eK at *;replace WR:=ι (WR.out.below hb);replace A1:=ι (A1.out.below hb);replace A2:=ι (A2.out.below hb);replace A3:=ι (A3.out.below hb);replace A4:=ι (A4.out.below hb);replace B0:=ι (B0.out.below hb);replace B1:=ι (B1.out.below hb);replace B2:=ι (B2.out.below hb);replace B3:=ι (B3.out.below hb);replace K:=ι (Rg.acc K.out hb);clear hb;have B4:=ι bA;clear bA;have bA:=fq eK 3 [1,2,1] (by decide);refine i8 (er _ _ 3 _ rfl [1,2,1] Tryz.underlying35 kO oH rfl (by decide) (by decide) rfl) ?_;go_frame;have hb:=(Below.refl eK.heap.size eK).alloc (Nat.le_refl _) (.cells (([1,2,1]:List Int).map (Value.int .i64)).toArray 3);generalize eK.alloc (.cells (([1,2,1]:List Int).map (Value.int .i64)).toArray 3)=PL at *
 replace WR:=ι (WR.out.below hb);replace A1:=ι (A1.out.below hb);replace A2:=ι (A2.out.below hb);replace A3:=ι (A3.out.below hb);replace A4:=ι (A4.out.below hb);replace B0:=ι (B0.out.below hb);replace B1:=ι (B1.out.below hb);replace B2:=ι (B2.out.below hb);replace B3:=ι (B3.out.below hb);replace B4:=ι (B4.out.below hb);replace K:=ι (Rg.acc K.out hb);clear hb;have B5:=ι bA;clear bA;have Xp:=PJ B0.out (b_.mk B1.out) (b_.mk B2.out) (b_.mk B3.out) (b_.mk B4.out) (b_.mk B5.out);refine i8 (yS (u1:=.slice (some ⟨w8.heap.size,0,none⟩) 0 0) (u2:=.slice (some ⟨w9.heap.size,0,none⟩) 1 1) (u3:=.slice (some ⟨vd.heap.size,0,none⟩) 1 1) (u4:=.slice (some ⟨gC.heap.size,0,none⟩) 2 2) (u5:=.slice (some ⟨l8.heap.size,0,none⟩) 2 2) (u6:=.slice (some ⟨eK.heap.size,0,none⟩) 3 3) _ _ _ _ _ _ rfl rfl rfl rfl rfl rfl rfl (Bc PL _ _ _ _ _ _ ⟨_,_,_,rfl⟩ ⟨_,_,_,rfl⟩ ⟨_,_,_,rfl⟩ ⟨_,_,_,rfl⟩ ⟨_,_,_,rfl⟩ ⟨_,_,_,rfl⟩)) ?_;go_frame
 have hb:=(Below.refl PL.heap.size PL).alloc (Nat.le_refl _) (.cells #[.slice (some ⟨w8.heap.size,0,none⟩) 0 0,.slice (some ⟨w9.heap.size,0,none⟩) 1 1,.slice (some ⟨vd.heap.size,0,none⟩) 1 1,.slice (some ⟨gC.heap.size,0,none⟩) 2 2,.slice (some ⟨l8.heap.size,0,none⟩) 2 2,.slice (some ⟨eK.heap.size,0,none⟩) 3 3] 35);generalize PL.alloc (.cells #[.slice (some ⟨w8.heap.size,0,none⟩) 0 0,.slice (some ⟨w9.heap.size,0,none⟩) 1 1,.slice (some ⟨vd.heap.size,0,none⟩) 1 1,.slice (some ⟨gC.heap.size,0,none⟩) 2 2,.slice (some ⟨l8.heap.size,0,none⟩) 2 2,.slice (some ⟨eK.heap.size,0,none⟩) 3 3] 35)=NK at *;replace WR:=ι (WR.out.below hb);replace A1:=ι (A1.out.below hb);replace A2:=ι (A2.out.below hb);replace A3:=ι (A3.out.below hb);replace A4:=ι (A4.out.below hb);replace B0:=ι (B0.out.below hb);replace B1:=ι (B1.out.below hb);replace B2:=ι (B2.out.below hb)
 replace B3:=ι (B3.out.below hb);replace B4:=ι (B4.out.below hb);replace B5:=ι (B5.out.below hb);replace K:=ι (Rg.acc K.out hb);clear hb;have R6:=ι (lI.mk Xp);clear Xp;refine dB (some 29) rfl rfl _ _ (aD 12 _ _ _ rfl rfl rfl (NH _ _)) ?_;refine (sL (b:=true) WR.out.r R6.out.r (ι (decide_eq_true rfl))).mono ?_;rintro e1 w16 ⟨rfl,hb⟩;refine ⟨_,rfl,?_⟩;go_frame;replace WR:=ι (WR.out.below hb);replace A1:=ι (A1.out.below hb);replace A2:=ι (A2.out.below hb);replace A3:=ι (A3.out.below hb);replace A4:=ι (A4.out.below hb);replace B0:=ι (B0.out.below hb);replace B1:=ι (B1.out.below hb);replace B2:=ι (B2.out.below hb);replace B3:=ι (B3.out.below hb);replace B4:=ι (B4.out.below hb);replace B5:=ι (B5.out.below hb);replace R6:=ι (R6.out.below hb);replace K:=ι (Rg.acc K.out hb);clear hb
 refine i8 (f7 (.bool true))<|i7 rfl ?_;go_frame
 go_wp2;go_ret;exact ⟨rfl,K.out⟩
end Go.Proofs.YtbngdgfmlmkgiaaGreat

set_option linter.unusedVariables false
namespace Go.Proofs.YtbngdgfmlmkgiaaGreat
open Go.RowKit
open Go.Proofs
open Go.ChangeShapes Go.WideShapes Go.Deep Go.Joins
attribute [local irreducible] Go.Calls
section
variable {H:Type} {enc:TypeId × Value→H}
theorem TQ {base:Nat} {r:Reach} {v:Value} {d:DataW H} {p:List MemPlace} (h:DataW.Trod enc Tryz.prog W 0 (fun _=>true) true 26 v d p) (hv:∃ x,v.cells.toList=[x]∧v=x) :
  ∃ l,Rg.fV maxLen W v l:=by
 obtain ⟨fuel,hf⟩:=h;obtain ⟨x,hc,rfl⟩:=hv;rw [hc] at hf
 rcases open_ints Tryz.underlying26 Tryz.underlying3 H4 hf with ⟨vV,_⟩ | ⟨a,len,cap,zs,vV,_,hl,hm,hz,_,aN,_⟩
 ·obtain rfl:v=.slice none 0 0:=by simpa using vV
  exact ⟨[],none,0,rfl,by simp,Nat.zero_le _,by simp,fun h=>by simp at h⟩
 ·obtain rfl:v=.slice (some a) len cap:=by simpa using vV
  simp only [if_true] at hz
  have hlen:(zs.take len).length=len:=by rw [List.length_take]; omega
  refine ⟨zs.take len,some a,cap,by rw [List.length_map,hlen],by rw [List.length_map,hlen]; exact hl,hm,by rw [List.length_map,hlen]; omega,fun h0=>?_⟩;rw [List.length_map,hlen] at h0;have cr:=aN 0 (by omega)
  have ha:a=⟨a.block,a.off,none⟩:=by
   have:=qh (a:=a) (by simpa [Addr.add] using cr)
   cases a; simp at this; subst this; rfl
  refine ⟨a.block,a.off,by rw [← ha],gK (a:=a) (by simpa [Addr.add] using cr),fun i hi=>?_⟩;rw [List.length_map,hlen] at hi;rw [← tj ha i,aN i (by omega)];simp [List.getD,List.getElem?_eq_getElem (show i<zs.length by omega)]
theorem TR {r:Reach} {v:Value} {d:DataW H} {p:List MemPlace} (hv:Value.okWide Tryz.prog W r base 24 v) (h:DataW.Trod enc Tryz.prog W 0 (fun _=>true) true 24 v d p) :
  ∃ (dd:Int) (gv:Value) (ll:List (List Int)),v=.agg #[.int .i64 dd,gv]∧Rg.gD maxLen W gv ll:=by
 obtain ⟨c0,c1,y0,y1,m,rfl,rfl,rfl,hy0,PM⟩:=open_agg2 Tryz.underlying24 (by kernel_rfl) KL hv h;obtain ⟨a,e0,_,_⟩:=DataW.trod_int Tryz.underlying3 hy0;simp at e0;subst e0
 rcases open_int_rows Tryz.underlying22 Tryz.underlying26 Tryz.underlying3 KJ H4 PM with ⟨vV,_⟩ | ⟨a1,len,cap,A,L,C,Z,vV,_,hl,hm,_,bD⟩
 ·obtain rfl:c1=.slice none 0 0:=by simpa using vV
  exact ⟨a,_,[],rfl,[],⟨none,0,rfl,by simp,Nat.zero_le _,by simp,fun h=>by simp at h⟩,rfl,fun i h=>by simp at h⟩
 ·obtain rfl:c1=.slice (some a1) len cap:=by simpa using vV
  refine ⟨a,_,(List.range len).map fun r=>(Z r).take (L r),rfl,(List.range len).map fun r=>.slice (A r) (L r) (C r),⟨some a1,cap,by simp,by simp; exact hl,hm,by simp; omega,fun h0=>?_⟩,by simp,fun i h1 h2=>?_⟩
  ·simp only [List.length_map,List.length_range] at h0
   obtain ⟨cr,_⟩:=bD 0 (by omega)
   have ha:a1=⟨a1.block,a1.off,none⟩:=by
    have:=qh (a:=a1) (by simpa [Addr.add] using cr)
    cases a1; simp at this; subst this; rfl
   refine ⟨a1.block,a1.off,by rw [← ha],gK (a:=a1) (by simpa [Addr.add] using cr),fun i hi=>?_⟩;simp only [List.length_map,List.length_range] at hi;rw [← tj ha i,(bD i (by omega)).1];simp
  ·simp only [List.length_map,List.length_range] at h1
   simp only [List.getElem_map,List.getElem_range];obtain ⟨_,hLC,hCm,hZ,_,hn,aN⟩:=bD i (by omega)
   have hlen:((Z i).take (L i)).length=L i:=by rw [List.length_take]; omega
   refine ⟨A i,C i,by rw [List.length_map,hlen],by rw [List.length_map,hlen]; exact hLC,hCm,by rw [List.length_map,hlen]; omega,fun h0=>?_⟩;rw [List.length_map,hlen] at h0
   cases hA:A i with
   | none=>have:=hn hA; omega
   | some a' =>
    obtain ⟨_,yw⟩:=aN a' hA;have cr:=yw 0 (by omega)
    have ha:a'=⟨a'.block,a'.off,none⟩:=by
     have:=qh (a:=a') (by simpa [Addr.add] using cr)
     cases a'; simp at this; subst this; rfl
    refine ⟨a'.block,a'.off,by rw [← ha],gK (a:=a') (by simpa [Addr.add] using cr),fun c hc=>?_⟩;rw [List.length_map,hlen] at hc;rw [← tj ha c,yw c (by omega)];simp [List.getD,List.getElem?_eq_getElem (show c<(Z i).length by omega)]
end
end Go.Proofs.YtbngdgfmlmkgiaaGreat

namespace Go.Proofs.YtbngdgfmlmkgiaaGreat
open Go.RowKit
open Go.Proofs
open Go.Proofs.Ob
open Go.Proofs.Cm (Gd Gr ar ap)
attribute [local irreducible] Go.Calls Go.wpList
structure PN (w:World) (v:Value) (l:List Int):Prop where
 i:Rg.fV maxLen w v l
theorem PN.below {w w':World} {v:Value} {l:List Int} (h:PN w v l) (hb:Below w.heap.size w w'):PN w' v l:=⟨Rg.fV.below h.i hb⟩
theorem PO (h:sN d ll=false):lg ll=false:=by
 unfold sN at h;rw [Bool.or_eq_false_iff] at h;exact h.1

abbrev TS:=Int × Int × Int
abbrev QK (T:List (List Nat)) (i:Int):Prop:=0≤i∧i<(T.length:Int)
def Xq (T:List (List Nat)) (s:TS):Int :=
 if s.1≠1∧s.1≠2 then 3 else if ¬ QK T s.2.1 then 2 else if s.1=1∧¬ QK T s.2.2 then 2 else 0
def rnE (T:List (List Nat)) (s:TS):List Nat:=if s.1=1 then Ma.aj (T.getD s.2.1.toNat []) (T.getD s.2.2.toNat []) else Ma.aO (T.getD s.2.1.toNat [])
def rn:List TS→List (List Nat)→Int × List (List Nat)
 | [],T=>(0,T)
 | s :: l,T=>if Xq T s≠0 then (Xq T s,T) else rn l (T++[rnE T s])
end Go.Proofs.YtbngdgfmlmkgiaaGreat

namespace Go.Proofs.YtbngdgfmlmkgiaaGreat
open Go.RowKit
open Go.Proofs
open Go.Proofs.Ob
open Go.Proofs.Cm (Gd Gr ar ap)
theorem zL {x:List Nat} {wd:List Int}:∀ (l:List (List Nat × Int)) (st:cF),∀ y∈l,Ma.aj x y.1∈(l.foldl (bm x wd) st).1
 | [],st,y,hy=>by simp at hy
 | z :: l,st,y,hy=>by
  rcases List.mem_cons.1 hy with hy | hy
  ·subst hy
   have h1:Ma.aj x y.1∈(bm x wd st y).1:=by
    unfold bm
    split
    ·assumption
    ·exact List.mem_append_right _ (List.mem_singleton.2 rfl)
   exact (Ext.fold x wd l _).1.subset h1
  ·exact zL l _ y hy
theorem fU (ml:List (List Nat × Int)) (N i:Nat):Ext (aI ml N i) (aI ml N (i+1)):=by
 show Ext _ (if i<(aI ml N i).1.length then dC ml (aI ml N i) i else aI ml N i)
 split
 ·exact Ext.fold _ _ _ _
 ·exact Ext.refl _
theorem pq (ml:List (List Nat × Int)) (N:Nat):∀ (i j:Nat) (x:List Nat),j<i→(aI ml N i).1[j]?=some x→∀ y∈ml,Ma.aj x y.1∈(aI ml N i).1
 | 0,j,x,hj,_,_,_=>absurd hj (Nat.not_lt_zero _)
 | i+1,j,x,hj,hx,y,hy=>by
  obtain ⟨t,ht⟩:=(fU ml N i).1
  by_cases h:i<(aI ml N i).1.length
  ·by_cases e:j=i
   ·subst e
    have yD:(aI ml N j).1.getD j []=x:=by
     rw [← ht,List.getElem?_append_left h,List.getElem?_eq_getElem h] at hx;rw [List.getD_eq_getElem?_getD,List.getElem?_eq_getElem h];exact Option.some.inj hx
    have e3:aI ml N (j+1)=dC ml (aI ml N j) j:=by
     show (if j<(aI ml N j).1.length then dC ml (aI ml N j) j else aI ml N j)=_;rw [if_pos h]
    rw [e3];unfold dC;rw [yD];exact zL ml _ y hy
   ·have iW:j<i:=by omega
    have yD:(aI ml N i).1[j]?=some x:=by
     rw [← ht,List.getElem?_append_left (by omega)] at hx;exact hx
    have:=pq ml N i j x iW yD y hy;rw [← ht];exact List.mem_append_left _ this
  ·have e3:aI ml N (i+1)=aI ml N i:=by
    show (if i<(aI ml N i).1.length then dC ml (aI ml N i) i else aI ml N i)=_;rw [if_neg h]
   rw [e3] at hx ⊢;have mA:j<(aI ml N i).1.length:=(List.getElem?_eq_some_iff.1 hx).1;exact pq ml N i j x (by omega) hx y hy
theorem iO.closed {ml:List (List Nat × Int)} {st:cF} (h:iO ml N st) {x:List Nat} (hx:x∈st.1) {y:List Nat × Int} (hy:y∈ml):Ma.aj x y.1∈st.1:=by
 obtain ⟨i,rfl,hi⟩:=h;obtain ⟨j,hj,e⟩:=List.getElem_of_mem hx;exact pq ml N i j x (by omega) (by rw [List.getElem?_eq_getElem hj,e]) y hy
theorem iO.one {ml:List (List Nat × Int)} {st:cF} (h:iO ml N st):Ma.aR N∈st.1:=by
 obtain ⟨i,rfl,h2⟩:=h;clear h2
 induction i with
 | zero=>exact List.mem_singleton.2 rfl
 | succ i ih=>exact (fU ml N i).1.subset ih
theorem J9 (hs:s∈gs):(∃ z,(s,z)∈ak gs)∧∃ z,(Ma.aO s,z)∈ak gs:=by
 have h1:s∈(ak gs).map (·.1):=by
  rw [nL]; exact List.mem_flatMap.2 ⟨s,hs,by simp⟩
 have h2:Ma.aO s∈(ak gs).map (·.1):=by
  rw [nL]; exact List.mem_flatMap.2 ⟨s,hs,by simp⟩
 obtain ⟨p,hp,e⟩:=List.mem_map.1 h1;obtain ⟨q,hq,e2⟩:=List.mem_map.1 h2;exact ⟨⟨p.2,by rw [← e]; exact hp⟩,⟨q.2,by rw [← e2]; exact hq⟩⟩
theorem uK {x:List Nat} (hx:Gd n x) (hy:Gd n y) (h:Ma.aj x y=Ma.aR n):Ma.aO x=y:=by
 rw [← Cm.mul_one (Cm.aW hx),← h,← Cm.mul_assoc (Cm.aW hx) hx,Cm.inv_mul hx,Cm.one_mul hy]
theorem G1 {x:List Nat} (hx:Gd n x):Ma.aO (Ma.aO x)=x:=uK (Cm.aW hx) hx (Cm.inv_mul hx)
theorem J_ {b:List Nat} (ha:Gd n a) (hb:Gd n b):Ma.aO (Ma.aj a b)=Ma.aj (Ma.aO b) (Ma.aO a):=by
 refine uK (Cm.a_ ha hb) (Cm.a_ (Cm.aW hb) (Cm.aW ha)) ?_;rw [← Cm.mul_assoc (Cm.a_ ha hb) (Cm.aW hb),Cm.fO ha hb,Cm.oI ha]
theorem iO.all (hg:∀ s∈gs,Gd N s) {st:cF} (h:iO (ak gs) N st) {x:List Nat} (hx:Cm.Gr N (·∈gs) x):x∈st.1:=by
 have hb:BI N st:=by obtain ⟨i,rfl,_⟩:=h; exact gA (du hg) i
 have key:(∀ y∈st.1,Ma.aj y x∈st.1)∧(∀ y∈st.1,Ma.aj y (Ma.aO x)∈st.1):=by
  induction hx with
  | one =>
   have e:Ma.aO (Ma.aR N)=Ma.aR N:=Cm.inv_one N;refine ⟨fun y hy=>?_,fun y hy=>?_⟩
   ·rw [Cm.mul_one (hb.gd y hy)]; exact hy
   ·rw [e,Cm.mul_one (hb.gd y hy)]; exact hy
  | gen s hs =>
   obtain ⟨⟨z1,h1⟩,⟨z2,h2⟩⟩:=J9 hs;exact ⟨fun y hy=>h.closed hy h1,fun y hy=>h.closed hy h2⟩
  | mul a b ha s6 NN Xr =>
   have ga:=(Cm.Gr.fW hg).gd _ ha;have gb:=(Cm.Gr.fW hg).gd _ s6;refine ⟨fun y hy=>?_,fun y hy=>?_⟩
   ·rw [← Cm.mul_assoc (hb.gd y hy) ga]; exact Xr.1 _ (NN.1 y hy)
   ·rw [J_ ga gb,← Cm.mul_assoc (hb.gd y hy) (Cm.aW gb)]
    exact NN.2 _ (Xr.2 y hy)
  | inv a ha NN =>
   have ga:=(Cm.Gr.fW hg).gd _ ha;exact ⟨NN.2,fun y hy=>by rw [G1 ga]; exact NN.1 y hy⟩
 have:=key.1 _ h.one
 rwa [Cm.one_mul ((Cm.Gr.fW hg).gd _ hx)] at this
end Go.Proofs.YtbngdgfmlmkgiaaGreat

namespace Go.Proofs.YtbngdgfmlmkgiaaGreat
open Go.RowKit
open Go.Proofs
open Go.Proofs.Ob
open Go.Proofs.Cm (Tr cE Gr Gd Sd cp cS Fx ap ar eI kn St kq)
structure En where
 b:Nat
 i:Nat
 p:Nat
 x:List Nat
 at_:Nat
 by_:Int
end Go.Proofs.YtbngdgfmlmkgiaaGreat

namespace Go.Proofs.YtbngdgfmlmkgiaaGreat
open Go.RowKit
open Go.Proofs
open Go.Proofs.Ob
open Go.Proofs.Cm (Gd)
attribute [local irreducible] Go.Calls
structure q7 (F M:Nat→Prop) (W:World) (v:Value) (l:List Int):Prop where
 own:∃ B,B≤W.heap.size∧W.ownsRow B 3 1 v l.length (l.map (Value.int .i64))
 off:∀ k,v.ownBlock=some k→¬ F k∧¬ M k∧k<W.heap.size
theorem q7.up {w:World} {v:Value} (h:q7 F M w v l) (hb:Below w.heap.size w w'):q7 (cx F w w') M w' v l:=by
 obtain ⟨B,h0,h1⟩:=h.own;refine ⟨⟨B,Nat.le_trans h0 hb.size,Rg.aQ h1 hb⟩,fun k e=>?_⟩;obtain ⟨a,b,c⟩:=h.off k e;refine ⟨fun hf=>?_,b,Nat.lt_of_lt_of_le c hb.size⟩
 rcases hf with hf | hf
 ·exact a hf
 ·omega
theorem q7.shape {w:World} {v:Value} (h:q7 F M w v l):∃ a c,v=.slice a l.length c:=by
 obtain ⟨B,h0,h1⟩:=h.own;exact Rg.bY h1
theorem q7.push {v:Value} (h:q7 F M W v l) (hF:∀ k,F k→k<W.heap.size) (hM:∀ k,M k→k<W.heap.size) (x:Int) (hn:l.length<1000000) (ty:TypeId) :
  ∃ a c X,(Builtin.append_ #[25,25] ty #[v,.slice (some ⟨W.heap.size,0,none⟩) 1 1]).run Tryz.prog (W.alloc (.cells #[.int .i64 x] 3))=.ok (.slice a (l.length+1) c) X∧q7 F M X (.slice a (l.length+1) c) (l++[x])∧Rg.Kp (fun k=>v.ownBlock=some k) W X∧(∀ k,(Value.slice a (l.length+1) c).ownBlock=some k→v.ownBlock=some k∨W.heap.size≤k):=by
 obtain ⟨B,h0,h1⟩:=h.own;have hb:Below W.heap.size W (W.alloc (.cells #[.int .i64 x] 3)):=(Below.refl _ _).alloc (Nat.le_refl _) _
 have e2:(W.alloc (.cells #[.int .i64 x] 3)).heap.size=W.heap.size+1:=by simp
 have c0:(W.alloc (.cells #[.int .i64 x] 3)).cell? ⟨W.heap.size,0,none⟩=some (.int .i64 x):=by rw [Rg.aM]; rfl
 have h':=Rg.aQ h1 hb;generalize W.alloc (.cells #[.int .i64 x] 3)=W1 at *;obtain ⟨v',X,r1,r2,r3,r4,a,c,rfl⟩:=cR (P:=Tryz.prog) aX ty h' (by omega) W.heap.size 1 (u:=.int .i64 x) c0 rfl hn;have hk:Rg.Kp (fun k=>v.ownBlock=some k) W X:=Rg.Kp.trans (M:=fun k=>v.ownBlock=some k) ((Rg.Kp.aK hb).fN fun _=>False.elim) (Rg.Kp.cH r3 fun _ e=>e) (fun _ _ e=>e)
 refine ⟨a,c,X,r1,⟨⟨B,Nat.le_trans h0 hk.size,by rw [List.length_append,List.map_append]; exact r2⟩,fun k e=>?_⟩,hk,fun k e=>by
  rcases r4 with r4 | r4
  ·exact .inl (by rw [← r4]; exact e)
  ·rw [r4] at e
   injection e with e
   exact .inr (by omega)⟩
 have aJ:=(World.ownsRow.lt r2 k e).2
 rcases r4 with r4 | r4
 ·obtain ⟨q1,q2,_⟩:=h.off k (by rw [← r4]; exact e)
  exact ⟨q1,q2,aJ⟩
 ·rw [r4] at e
  injection e with e
  exact ⟨fun hf=>by have:=hF k hf; omega,fun hm=>by have:=hM k hm; omega,aJ⟩
theorem q7.ints {w:World} {v:Value} (h:q7 F M w v l) (hl:l.length≤1000000000):Rg.Ints w v l:=by
 obtain ⟨B,h0,h1⟩:=h.own;exact Rg.Ints.cm h1 hl
end Go.Proofs.YtbngdgfmlmkgiaaGreat

namespace Go.Proofs.YtbngdgfmlmkgiaaGreat
open Go.RowKit
open Go.Proofs
open Go.Proofs.Ob
attribute [local irreducible] Go.Calls
theorem Ka:(Tryz.prog.info? 3).map (fun i=>(i.zero,i.size,i.bytes))=some (some (.int .i64 0),1,8):=by kernel_rfl
theorem kG (X:World) (i:Int):(Instr.buildSlice 25 1 #[(0,.int .i64 i)]).run Tryz.prog X=.ok (.slice (some ⟨X.heap.size,0,none⟩) 1 1) (X.alloc (.cells #[.int .i64 i] 3)):=by
 obtain ⟨i0,hi,dc,bM,eY⟩:=info_parts Ka;refine run_buildSlice X 25 3 1 _ _ i0 _ Tryz.underlying25 hi dc (by rw [bM]; decide) (by rw [bM]; decide) ?_;generalize (fun x=>((Value.int .i64 0).cells)[x % (Value.int .i64 0).cells.size]!)=f;rw [bM];have h1:Array.range (1*1)=#[0]:=rfl;simp [Instr.fill,Value.cells,h1]
theorem q7.new (hF:∀ k,F k→k<W.heap.size) (hM:∀ k,M k→k<W.heap.size) (l:List Int) (hl:l.length≤1000) (t:TypeId) (ht:t=3):q7 F M (W.alloc (.cells (l.map (Value.int .i64)).toArray t)) (.slice (some ⟨W.heap.size,0,none⟩) l.length l.length) l:=by
 subst ht;refine ⟨⟨W.heap.size,by simp,⟨by simp,.inr ⟨W.heap.size,l.length,(l.map (Value.int .i64)).toArray,rfl,Nat.le_refl _,by unfold World.alloc; simp,Nat.le_refl _,by unfold maxLen; omega,by simp,by simpa using List.take_of_length_le (by simp)⟩⟩⟩,fun k e=>?_⟩;have e:some W.heap.size=some k:=e
 injection e with e
 subst e;exact ⟨fun h=>Nat.lt_irrefl _ (hF _ h),fun h=>Nat.lt_irrefl _ (hM _ h),by simp⟩
end Go.Proofs.YtbngdgfmlmkgiaaGreat

namespace Go.Proofs.YtbngdgfmlmkgiaaGreat
open Go.RowKit
open Go.Proofs
open Go.Proofs.Ob
open Go.Proofs.Cm (Gd Gr ar ap)
attribute [local irreducible] Go.Calls Go.wpList
theorem G2 (args:Array Value) (w:World):(callFunc 49 args).run Tryz.prog w=.ok (.enter 49 args) w:=by kernel_rfl
theorem DU (hg:∀ s∈gs,Gd N s) (aZ:1≤N) (bn:N≤12) (bH:ar N (Cm.Gr N (·∈gs)) O R) {w:World} (h:bZ w ov rv (O.map Ma.ah) (R.map (List.map Ma.ah))) :
  Calls Tryz.prog 47 #[.agg #[.int .i64 ((N:Nat):Int),ov,rv]] w fun e w'=>e=.returned (.tuple #[.int .i64 ((bQ O N N:Nat):Int),.int .i64 0])∧Below w.heap.size w w':=by
 have eo:c_ ((N:Nat):Int) (O.map Ma.ah) (R.map (List.map Ma.ah))=0:=kC (tQ aZ (by omega) hg bH);obtain ⟨oa,oc,e1,-⟩:=h.1.shape;obtain ⟨ra,rc,e2⟩:=h.2.shape;obtain ⟨on,oM⟩:∃ n,(O.map Ma.ah).length=n:=⟨_,rfl⟩;obtain ⟨rn,qO⟩:∃ n,(R.map (List.map Ma.ah)).length=n:=⟨_,rfl⟩;rw [oM] at e1;rw [qO] at e2;subst e1 e2;clear oM qO;have To:=ι eo;have HC:=ι h;have cN:=ι bH;have HG:=ι hg;have K:=ι (Below.refl w.heap.size w);clear h bH eo hg
 go_enter Tryz.func47,Tryz.ntmps47
 go_upto_region 0 with fail;refine b6 ?_;have bG:=jA w (.int .i64 ((N:Nat):Int)) (.slice oa on oc) (.slice ra rn rc);refine i8 (Rg.ba _ _ rfl rfl) ?_;go_frame;have hb:=(Below.refl w.heap.size w).alloc (Nat.le_refl _) (.cells #[.int .i64 ((N:Nat):Int),.slice oa on oc,.slice ra rn rc] 54);generalize w.alloc (.cells #[.int .i64 ((N:Nat):Int),.slice oa on oc,.slice ra rn rc] 54)=w1 at *;replace HC:=ι (HC.out.below hb);replace K:=ι (Rg.acc K.out hb);clear hb;have A0:=ι bG.1;have A1:=ι bG.2.1;have A2:=ι bG.2.2;clear bG
 refine i4 rfl<|i4 rfl ?_;go_frame
 go_upto_region 1 with fail
 refine b6<|i8 (d8 ((.agg #[.int .i64 ((N:Nat):Int),.slice oa on oc,.slice ra rn rc])) ⟨w.heap.size,0,none⟩ (bh A0.out.cell A1.out.cell A2.out.cell)) ?_;go_frame
 refine d4 8 (aq 48 _ _ rfl rfl (AX _ _)) ?_;refine (lR HC.out).mono ?_;rintro e1 w2 ⟨rfl,hb⟩;rw [To.out];refine ⟨_,rfl,?_⟩;go_frame;replace HC:=ι (HC.out.below hb);replace A0:=ι (A0.out.below hb);replace A1:=ι (A1.out.below hb);replace A2:=ι (A2.out.below hb);replace K:=ι (Rg.acc K.out hb);clear hb;refine i4 rfl ?_;go_frame;go_upto_region 2 with fail
 refine b6<|i4 rfl<|i8 (d9 (.bool false) .neq (h:=ax _ (decide_eq_false (by decide)))) ?_;go_frame
 go_upto_region 4 with fail
 refine b6<|i8 (d8 ((.agg #[.int .i64 ((N:Nat):Int),.slice oa on oc,.slice ra rn rc])) ⟨w.heap.size,0,none⟩ (bh A0.out.cell A1.out.cell A2.out.cell)) ?_;go_frame
 refine d4 14 (aq 49 _ _ rfl rfl (G2 _ _)) ?_;refine (nJ aZ bn (Cm.Gr.fW HG.out) cN.out HC.out).mono ?_;rintro e1 w3 ⟨sg,rfl,Gu,Tp,hb⟩;have Tq:CL w3 sg (0+0) (.int .i64 ((bQ O N N:Nat):Int)):=⟨by have:=Gu.2.1 0 (by omega); rw [this]; unfold mh; simp,Gu.1⟩;clear Tp Gu;refine ⟨_,rfl,?_⟩;go_frame;replace HC:=ι (HC.out.below hb);replace A0:=ι (A0.out.below hb);replace A1:=ι (A1.out.below hb);replace A2:=ι (A2.out.below hb);replace K:=ι (Rg.acc K.out hb);clear hb;have CZ:=ι Tq
 refine i3 (.tuple #[.slice (some ⟨sg,0,none⟩) (N+1) (N+1),.bool true]) rfl<|i8 (f8 (.slice (some ⟨sg,0,none⟩) (N+1) (N+1)))<|i8 (f8 (.bool true))<|i5 rfl<|i7 rfl ?_;go_frame
 go_upto_region 5 with fail
 refine b6<|i7 rfl<|i8 (bE _ _ true rfl rfl) ?_;go_frame
 go_upto_region 7 with fail
 refine b6<|i5 rfl<|i8 (ag aX _ _ rfl sg (0) ((N+1)) (N+1) (0) rfl rfl (by omega))<|i8 (d8 (.int .i64 (((bQ O N N):Nat):Int)) ⟨sg,0+0,none⟩ (af CZ.out.cell))<|i4 rfl ?_;go_frame
 refine i4 rfl ?_;go_frame;go_wp2
 go_ret2
 exact ⟨rfl,K.out⟩
end Go.Proofs.YtbngdgfmlmkgiaaGreat

namespace Go.Proofs.YtbngdgfmlmkgiaaGreat
open Go.RowKit
open Go.Proofs
open Go.Proofs.Ob
open Go.Proofs.Cm (Gd Gr ar ap Tr cE)
attribute [local irreducible] Go.Calls Go.wpList
theorem NR (args:Array Value) (w:World):(callFunc 46 args).run Tryz.prog w=.ok (.enter 46 args) w:=by kernel_rfl
theorem TU (args:Array Value) (w:World):(callFunc 47 args).run Tryz.prog w=.ok (.enter 47 args) w:=by kernel_rfl
theorem NT (gv:Value) (d:Int) (ll:List (List Int)) (w:World) (h:Rg.Rows w gv ll) :
  Calls Tryz.prog 46 #[.agg #[.int .i64 d,gv]] w fun e w'=>∃ cv,e=.returned (.tuple #[cv,.int .i64 (Ma.bJ d ll)])∧dJ w.heap.size w' d ll cv (Ma.bJ d ll)∧Below w.heap.size w w':=by
 obtain ⟨ga,gc,rfl,dS,eF⟩:=GI.enter (d) h;have K:=ι eF;have G0:=ι dS;clear h dS eF
 go_enter Tryz.func46,Tryz.ntmps46
 go_upto_region 0 with fail
 refine b6<|i8 (Rg.ba _ _ rfl rfl) ?_;go_frame
 generalize w.alloc (.cells #[.int .i64 d,.slice ga ll.length gc] 24)=w0 at *;have jq:=ι K.out.size;have bA:=dh.new w0 (.int .i64 0) (.slice none 0 0) (.slice none 0 0);refine i8 (cz rfl) ?_;go_frame;have hb:=(Below.refl w0.heap.size w0).alloc (Nat.le_refl _) (.cells #[.int .i64 0,.slice none 0 0,.slice none 0 0] 54);generalize w0.alloc (.cells #[.int .i64 0,.slice none 0 0,.slice none 0 0] 54)=w1 at *;replace G0:=ι (G0.out.below hb);replace K:=ι (Rg.acc K.out hb);clear hb;have FT:=ι bA;clear bA;go_upto_region 1 with fail
 refine b6<|i8 (d8 (.agg #[.int .i64 d,.slice ga ll.length gc]) ⟨w.heap.size,0,none⟩ (aT G0.out.c0 G0.out.c1)) ?_;go_frame
 refine d4 6 (aq 54 _ _ rfl rfl (MG _ _)) ?_;refine (nS _ _ _ w1 G0.out.rows).mono ?_;rintro e1 w2 ⟨rfl,hb⟩;refine ⟨_,rfl,?_⟩;go_frame;replace G0:=ι (G0.out.below hb);replace FT:=ι (FT.out.below hb);replace K:=ι (Rg.acc K.out hb);clear hb;refine i4 rfl ?_;go_frame
 by_cases hz:Ma.bJ d ll=0
 ·obtain ⟨Pf,Pg,dH⟩:=Wb hz
  have Ps:=ι dH;clear dH;go_upto_region 2 with fail
  refine b6<|i4 rfl<|i8 (d9 (.bool false) .neq (h:=ax _ d6)) ?_;go_frame
  go_upto_region 4 with fail
  refine b6<|i8 (bL _ rfl rfl)<|i8 (d8 (.int .i64 d) ⟨w.heap.size,0,none⟩ (af G0.out.c0))<|i8 (cI _ rfl rfl)<|i8 (d8 (.slice ga ll.length gc) ⟨w.heap.size,1,none⟩ (Rg.ae _ _ Tryz.underlying22 G0.out.c1)) ?_;go_frame
  have fF:=ι FT.out.lt;refine d4 15 (aD 77 _ _ _ rfl rfl rfl (MH _ _)) ?_;refine (wW _ d ll w2 G0.out.rows).mono ?_;rintro e1 w3 ⟨cv,rfl,hcv,hb⟩;obtain ⟨e5,oa,on,oc,ra,rn,rc,rfl⟩:=hcv.V0.shape;have HCV:=ι hcv;clear hcv;refine ⟨_,rfl,?_⟩;go_frame;replace G0:=ι (G0.out.below hb);replace FT:=ι (FT.out.below hb);replace K:=ι (Rg.acc K.out hb);clear hb
  refine i8 (f8 ((.agg #[.int .i64 e5,.slice oa on oc,.slice ra rn rc])))<|i8 (f8 (.int .i64 (cY d ll)))<|Rg.aF none rfl rfl (Rg.az _ _ _ rfl _ rfl _ rfl (bC _ _ _ _ _ _ _ FT.out))<|i4 rfl ?_;go_frame
  have jK:=FT.out.set (.int .i64 e5) (.slice oa on oc) (.slice ra rn rc);have lF:=Rg.Kp.trans (Rg.Kp.trans (Rg.Kp.aS (M:=fun z=>z=w0.heap.size) (w:=w3) (a:=⟨w0.heap.size,0,none⟩) (v:=.int .i64 e5) rfl) (Rg.Kp.aS (M:=fun z=>z=w0.heap.size) (a:=⟨w0.heap.size,1,none⟩) (v:=(.slice oa on oc)) rfl) (fun _ _ e=>e)) (Rg.Kp.aS (M:=fun z=>z=w0.heap.size) (a:=⟨w0.heap.size,2,none⟩) (v:=(.slice ra rn rc)) rfl) (fun _ _ e=>e);have TV:=(HCV.out.kp lF (fun z e=>by rw [e]; exact fF.out)).mono (show w.heap.size≤_ from by have:=fF.out; have:=jq.out; omega);have gR:=((K.out.setCell (p:=⟨w0.heap.size,0,none⟩) jq.out (.int .i64 e5)).setCell (p:=⟨w0.heap.size,1,none⟩) jq.out (.slice oa on oc)).setCell (p:=⟨w0.heap.size,2,none⟩) jq.out (.slice ra rn rc);generalize ((w3.setCell ⟨w0.heap.size,0,none⟩ (.int .i64 e5)).setCell ⟨w0.heap.size,1,none⟩ (.slice oa on oc)).setCell ⟨w0.heap.size,2,none⟩ (.slice ra rn rc)=dM at *
  have ke:=ι jK
  have ir:=ι (show ∃ cv,Ending.returned (.tuple #[.agg #[.int .i64 e5,(.slice oa on oc),(.slice ra rn rc)],.int .i64 (cY d ll)])=.returned (.tuple #[cv,.int .i64 (Ma.bJ d ll)])∧dJ w.heap.size dM d ll cv (Ma.bJ d ll)∧Below w.heap.size w dM from
   ⟨_,by rw [hz,Ps.out],by rw [hz]; rw [Ps.out] at TV; exact TV,gR⟩)
  clear jK lF TV gR;go_wp2;exact bodyPost_ret (bT (p:=2) (u:=3) rfl _ rfl rfl ke.out) rfl ir.out
 ·skip
  go_upto_region 2 with fail
  refine b6<|i4 rfl<|i8 (d9 (.bool true) .neq (h:=ax _ d5)) ?_;go_frame
  go_upto_region 3 with fail
  refine b6<|i8 (eZ rfl)<|i4 rfl<|Rg.aF none rfl rfl (Rg.az _ _ _ rfl _ rfl _ rfl (bC _ _ _ _ _ _ _ FT.out))<|i4 rfl ?_;go_frame
  have jK:=FT.out.set (.int .i64 0) (.slice none 0 0) (.slice none 0 0);have gR:=((K.out.setCell (p:=⟨w0.heap.size,0,none⟩) jq.out (.int .i64 0)).setCell (p:=⟨w0.heap.size,1,none⟩) jq.out (.slice none 0 0)).setCell (p:=⟨w0.heap.size,2,none⟩) jq.out (.slice none 0 0);generalize ((w2.setCell ⟨w0.heap.size,0,none⟩ (.int .i64 0)).setCell ⟨w0.heap.size,1,none⟩ (.slice none 0 0)).setCell ⟨w0.heap.size,2,none⟩ (.slice none 0 0)=dM at *;have ke:=ι jK
  have ir:=ι (show ∃ cv,Ending.returned (.tuple #[jg,.int .i64 (Ma.bJ d ll)])=.returned (.tuple #[cv,.int .i64 (Ma.bJ d ll)])∧dJ w.heap.size dM d ll cv (Ma.bJ d ll)∧Below w.heap.size w dM from
   ⟨_,rfl,.inl ⟨hz,rfl⟩,gR⟩)
  clear jK gR;go_wp2;exact bodyPost_ret (bT (p:=2) (u:=3) rfl _ rfl rfl ke.out) rfl ir.out
structure Bd (B:Nat) (W:World) (ov rv:Value) (OO:List (List Int)) (RR:List (List (List Int))):Prop where
 o:Rg.bs (fun z=>B≤z) W ov OO
 r:fj (fun z=>B≤z) W rv RR
theorem Bd.kp {B:Nat} {M:Nat→Prop} {W W':World} {ov rv:Value} {OO:List (List Int)} {RR:List (List (List Int))} (h:Bd B W ov rv OO RR) (hk:Rg.Kp M W W') (hM:∀ z,M z→z<B):Bd B W' ov rv OO RR :=
 ⟨bs.kp h.o hk (fun z g e=>by have:=hM z e; omega),h.r.kp hk (fun z g e=>by have:=hM z e; omega)⟩
theorem Bd.below (h:Bd B W ov rv OO RR) (hb:Below W.heap.size W W'):Bd B W' ov rv OO RR:=h.kp (M:=fun _=>False) (Rg.Kp.aK hb) (fun _ e=>e.elim)
theorem Bd.eq (h:Bd B W ov rv OO RR):bZ W ov rv OO RR:=⟨bs.rows h.o,h.r.rows⟩
def PQ (d:Int) (ll:List (List Int)) (W:World) (cv:Value) (c:Int):Prop :=
 (Ma.bJ d ll≠0∧c=Ma.bJ d ll∧cv=jg) ∨
  (Ma.bJ d ll=0∧∃ (N:Nat) (gs:List (List Nat)) (O:List (List Nat)) (R:List (List (List Nat))) (ov rv:Value),d=((N:Nat):Int)∧ll=gs.map Ma.ah∧1≤N∧gs.length≤16∧(∀ s∈gs,Gd N s)∧ar N (Cm.Gr N (·∈gs)) O R∧cv=.agg #[.int .i64 ((N:Nat):Int),ov,rv]∧bZ W ov rv (O.map Ma.ah) (R.map (List.map Ma.ah)) ∧
   ((5040<bQ O N N∧c=5)∨(bQ O N N≤5040∧c=0)))
def vG (d:Int) (ll:List (List Int)) (w:World) (ed:Ending) (w':World):Prop:=∃ cv c,ed=.returned (.tuple #[cv,.int .i64 c])∧PQ d ll w' cv c∧Below w.heap.size w w'
theorem xO (gv:Value) (d:Int) (ll:List (List Int)) (w:World) (h:Rg.Rows w gv ll) (hd:d≤12∨64<d) :
  Calls Tryz.prog 23 #[.agg #[.int .i64 d,gv]] w (vG d ll w):=by
 obtain ⟨ga,gc,rfl,dS,eF⟩:=GI.enter (d) h;have K:=ι eF;have G0:=ι dS;clear h dS eF
 go_enter Tryz.func23,Tryz.ntmps23
 go_upto_region 0 with fail
 refine b6<|i8 (Rg.ba _ _ rfl rfl) ?_;go_frame
 generalize w.alloc (.cells #[.int .i64 d,.slice ga ll.length gc] 24)=w0 at *;have jq:=ι K.out.size;have bA:=dh.new w0 (.int .i64 0) (.slice none 0 0) (.slice none 0 0);refine i8 (cz rfl) ?_;go_frame;have hb:=(Below.refl w0.heap.size w0).alloc (Nat.le_refl _) (.cells #[.int .i64 0,.slice none 0 0,.slice none 0 0] 54);generalize w0.alloc (.cells #[.int .i64 0,.slice none 0 0,.slice none 0 0] 54)=w1 at *;replace G0:=ι (G0.out.below hb);replace K:=ι (Rg.acc K.out hb);clear hb;have FT:=ι bA;clear bA;refine i4 rfl ?_;go_frame;have fF:=ι FT.out.lt;obtain ⟨ck,eo⟩:∃ c,Hid (Ma.bJ d ll=c):=⟨_,ι rfl⟩
 by_cases h0:ck=0
 case neg =>
  skip
  go_upto_region 1 with fail
  refine b6<|i8 (d8 (.agg #[.int .i64 d,.slice ga ll.length gc]) ⟨w.heap.size,0,none⟩ (aT G0.out.c0 G0.out.c1)) ?_;go_frame
  refine d4 9 (aq 46 _ _ rfl rfl (NR _ _)) ?_;refine (NT _ d ll w1 G0.out.rows).mono ?_;rintro e1 w2 ⟨cv,rfl,hcv,hb⟩;rw [eo.out] at hcv ⊢
  obtain rfl:cv=jg:=by rcases hcv with ⟨_,e⟩ | ⟨h9,_⟩; exact e; exact absurd h9 h0
  clear hcv;refine ⟨_,rfl,?_⟩;go_frame;replace G0:=ι (G0.out.below hb);replace FT:=ι (FT.out.below hb);replace K:=ι (Rg.acc K.out hb);clear hb
  refine i3 (.tuple #[(.agg #[.int .i64 0,.slice none 0 0,.slice none 0 0]),.int .i64 ck]) rfl<|i8 (f8 ((.agg #[.int .i64 0,.slice none 0 0,.slice none 0 0])))<|i8 (f8 (.int .i64 ck))<|i8 (cz rfl)<|Rg.aF none rfl rfl (Rg.az _ _ _ rfl _ rfl _ rfl (bC _ _ _ _ _ _ _ (dh.new w2 (.int .i64 0) (.slice none 0 0) (.slice none 0 0)))) ?_;go_frame
  have o9:=(dh.new w2 (.int .i64 0) (.slice none 0 0) (.slice none 0 0)).set (.int .i64 0) (.slice none 0 0) (.slice none 0 0);have hb:=((((Below.refl w2.heap.size w2).alloc (Nat.le_refl _) (.cells #[.int .i64 0,.slice none 0 0,.slice none 0 0] 54)).setCell (p:=⟨w2.heap.size,0,none⟩) (Nat.le_refl _) (.int .i64 0)).setCell (p:=⟨w2.heap.size,1,none⟩) (Nat.le_refl _) (.slice none 0 0)).setCell (p:=⟨w2.heap.size,2,none⟩) (Nat.le_refl _) (.slice none 0 0);generalize (((w2.alloc (.cells #[.int .i64 0,.slice none 0 0,.slice none 0 0] 54)).setCell ⟨w2.heap.size,0,none⟩ (.int .i64 0)).setCell ⟨w2.heap.size,1,none⟩ (.slice none 0 0)).setCell ⟨w2.heap.size,2,none⟩ (.slice none 0 0)=w3 at *;replace G0:=ι (G0.out.below hb);replace FT:=ι (FT.out.below hb);replace K:=ι (Rg.acc K.out hb);clear hb;have S1:=ι o9;clear o9;refine i4 rfl ?_;go_frame;go_upto_region 2 with fail
  refine b6<|i4 rfl<|i8 (d9 (.bool true) .neq (h:=ax _ (decide_eq_true h0))) ?_;go_frame
  go_upto_region 3 with fail
  refine b6<|i8 (d8 ((.agg #[.int .i64 0,.slice none 0 0,.slice none 0 0])) ⟨w2.heap.size,0,none⟩ (bh S1.out.c0 S1.out.c1 S1.out.c2))<|i4 rfl<|Rg.aF none rfl rfl (Rg.az _ _ _ rfl _ rfl _ rfl (bC _ _ _ _ _ _ _ FT.out))<|i4 rfl ?_;go_frame
  have jK:=FT.out.set (.int .i64 0) (.slice none 0 0) (.slice none 0 0);have lF:=Rg.Kp.trans (Rg.Kp.trans (Rg.Kp.aS (M:=fun z=>z=w0.heap.size) (w:=w3) (a:=⟨w0.heap.size,0,none⟩) (v:=.int .i64 0) rfl) (Rg.Kp.aS (M:=fun z=>z=w0.heap.size) (a:=⟨w0.heap.size,1,none⟩) (v:=.slice none 0 0) rfl) (fun _ _ e=>e)) (Rg.Kp.aS (M:=fun z=>z=w0.heap.size) (a:=⟨w0.heap.size,2,none⟩) (v:=.slice none 0 0) rfl) (fun _ _ e=>e);have gR:=((K.out.setCell (p:=⟨w0.heap.size,0,none⟩) jq.out (.int .i64 0)).setCell (p:=⟨w0.heap.size,1,none⟩) jq.out (.slice none 0 0)).setCell (p:=⟨w0.heap.size,2,none⟩) jq.out (.slice none 0 0);generalize ((w3.setCell ⟨w0.heap.size,0,none⟩ (.int .i64 0)).setCell ⟨w0.heap.size,1,none⟩ (.slice none 0 0)).setCell ⟨w0.heap.size,2,none⟩ (.slice none 0 0)=dM at *;have ke:=ι jK;have ir:=ι (show vG d ll w (.returned (.tuple #[jg,.int .i64 ck])) dM from ⟨_,_,rfl,.inl ⟨by rw [eo.out]; exact h0,eo.out.symm,rfl⟩,gR⟩)
  clear jK lF gR;go_wp2;exact bodyPost_ret (bT (p:=2) (u:=3) rfl _ rfl rfl ke.out) rfl ir.out
 case pos =>
  have HZ:=ι (eo.out.trans h0);obtain ⟨D,gs,rfl,rfl,nr,aZ,bn,dm⟩:=iz HZ.out;have cW:=ι (show ∀ s∈gs,Gd D s from fun s hs=>nr s hs);have j1:=ι dm
  have Nr:D≤12:=by omega
  clear nr dm eo bn hd;go_upto_region 1 with fail
  refine b6<|i8 (d8 (.agg #[.int .i64 ((D:Nat):Int),.slice ga (gs.map Ma.ah).length gc]) ⟨w.heap.size,0,none⟩ (aT G0.out.c0 G0.out.c1)) ?_;go_frame
  refine d4 9 (aq 46 _ _ rfl rfl (NR _ _)) ?_;refine (NT _ _ _ w1 G0.out.rows).mono ?_;rintro e1 pT ⟨cv,rfl,AW,hb⟩;rw [HZ.out] at AW ⊢
  rcases AW with ⟨he,_⟩ | ⟨_,n9,Z7,e1,e2,-,-,ov,rv,O,R,rfl,hO,hR,bH⟩
  ·exact absurd rfl he
  obtain rfl:D=n9:=by omega
  have e2:=cX e2;subst e2;obtain ⟨oa,oc,e3,-⟩:=(bs.rows hO).shape;obtain ⟨ra,rc,e4⟩:=hR.rows.shape;have hce:Bd w1.heap.size pT ov rv (O.map Ma.ah) (R.map (List.map Ma.ah)):=⟨hO,hR⟩;obtain ⟨on,oM⟩:∃ n,(O.map Ma.ah).length=n:=⟨_,rfl⟩;obtain ⟨rn,qO⟩:∃ n,(R.map (List.map Ma.ah)).length=n:=⟨_,rfl⟩;rw [oM] at e3;rw [qO] at e4;subst e3 e4;clear oM qO e1 hO hR;have cN:=ι bH;clear bH;refine ⟨_,rfl,?_⟩;go_frame;replace G0:=ι (G0.out.below hb);replace FT:=ι (FT.out.below hb);replace K:=ι (Rg.acc K.out hb);clear hb;have CE:=ι hce
  refine i3 (.tuple #[(.agg #[.int .i64 ((D:Nat):Int),.slice oa on oc,.slice ra rn rc]),.int .i64 0]) rfl<|i8 (f8 ((.agg #[.int .i64 ((D:Nat):Int),.slice oa on oc,.slice ra rn rc])))<|i8 (f8 (.int .i64 0))<|i8 (cz rfl)<|Rg.aF none rfl rfl (Rg.az _ _ _ rfl _ rfl _ rfl (bC _ _ _ _ _ _ _ (dh.new pT (.int .i64 0) (.slice none 0 0) (.slice none 0 0)))) ?_;go_frame
  have o9:=(dh.new pT (.int .i64 0) (.slice none 0 0) (.slice none 0 0)).set (.int .i64 ((D:Nat):Int)) (.slice oa on oc) (.slice ra rn rc);have hb:=((((Below.refl pT.heap.size pT).alloc (Nat.le_refl _) (.cells #[.int .i64 0,.slice none 0 0,.slice none 0 0] 54)).setCell (p:=⟨pT.heap.size,0,none⟩) (Nat.le_refl _) (.int .i64 ((D:Nat):Int))).setCell (p:=⟨pT.heap.size,1,none⟩) (Nat.le_refl _) (.slice oa on oc)).setCell (p:=⟨pT.heap.size,2,none⟩) (Nat.le_refl _) (.slice ra rn rc);generalize (((pT.alloc (.cells #[.int .i64 0,.slice none 0 0,.slice none 0 0] 54)).setCell ⟨pT.heap.size,0,none⟩ (.int .i64 ((D:Nat):Int))).setCell ⟨pT.heap.size,1,none⟩ (.slice oa on oc)).setCell ⟨pT.heap.size,2,none⟩ (.slice ra rn rc)=w25 at *;replace G0:=ι (G0.out.below hb);replace FT:=ι (FT.out.below hb);replace CE:=ι (CE.out.below hb);replace K:=ι (Rg.acc K.out hb)
  clear hb;have S1:=ι o9;clear o9;refine i4 rfl ?_;go_frame;clear hce;go_upto_region 2 with fail
  refine b6<|i4 rfl<|i8 (d9 (.bool false) .neq (h:=ax _ (decide_eq_false (by decide)))) ?_;go_frame
  clear h0;obtain ⟨sz,dn⟩:∃ n,Hid (bQ O D D=n):=⟨_,ι rfl⟩;go_upto_region 4 with fail
  refine b6<|i8 (d8 ((.agg #[.int .i64 ((D:Nat):Int),.slice oa on oc,.slice ra rn rc])) ⟨pT.heap.size,0,none⟩ (bh S1.out.c0 S1.out.c1 S1.out.c2)) ?_;go_frame
  refine d4 18 (aq 47 _ _ rfl rfl (TU _ _)) ?_;refine (DU cW.out aZ Nr cN.out CE.out.eq).mono ?_;rintro e1 PR ⟨rfl,hb⟩;rw [dn.out];refine ⟨_,rfl,?_⟩;go_frame;replace G0:=ι (G0.out.below hb);replace FT:=ι (FT.out.below hb);replace CE:=ι (CE.out.below hb);replace S1:=ι (S1.out.below hb);replace K:=ι (Rg.acc K.out hb);clear hb
  refine i3 (.tuple #[.int .i64 ((sz:Nat):Int),.int .i64 0]) rfl<|i8 (f8 (.int .i64 ((sz:Nat):Int)))<|i8 (f8 (.int .i64 0))<|i4 rfl<|i4 rfl ?_;go_frame
  by_cases wO:5040<sz
  case pos =>
   skip
   go_upto_region 5 with fail
   refine b6<|i4 rfl<|i8 (d9 (.bool false) .neq (h:=ax _ (decide_eq_false (by decide))))<|i7 rfl<|i4 rfl ?_;go_frame
   refine i8 (d9 (.bool true) .gtr (h:=cw _ d5))<|i8 (ec _ _ _ rfl rfl rfl) ?_;go_frame
   go_upto_region 6 with fail
   refine b6<|i8 (d8 ((.agg #[.int .i64 ((D:Nat):Int),.slice oa on oc,.slice ra rn rc])) ⟨pT.heap.size,0,none⟩ (bh S1.out.c0 S1.out.c1 S1.out.c2))<|Rg.aF none rfl rfl (Rg.az _ _ _ rfl _ rfl _ rfl (bC _ _ _ _ _ _ _ FT.out))<|i4 rfl ?_;go_frame
   have jK:=FT.out.set (.int .i64 ((D:Nat):Int)) (.slice oa on oc) (.slice ra rn rc);have lF:=Rg.Kp.trans (Rg.Kp.trans (Rg.Kp.aS (M:=fun z=>z=w0.heap.size) (w:=PR) (a:=⟨w0.heap.size,0,none⟩) (v:=.int .i64 ((D:Nat):Int)) rfl) (Rg.Kp.aS (M:=fun z=>z=w0.heap.size) (a:=⟨w0.heap.size,1,none⟩) (v:=.slice oa on oc) rfl) (fun _ _ e=>e)) (Rg.Kp.aS (M:=fun z=>z=w0.heap.size) (a:=⟨w0.heap.size,2,none⟩) (v:=.slice ra rn rc) rfl) (fun _ _ e=>e);have gR:=((K.out.setCell (p:=⟨w0.heap.size,0,none⟩) jq.out (.int .i64 ((D:Nat):Int))).setCell (p:=⟨w0.heap.size,1,none⟩) jq.out (.slice oa on oc)).setCell (p:=⟨w0.heap.size,2,none⟩) jq.out (.slice ra rn rc);generalize ((PR.setCell ⟨w0.heap.size,0,none⟩ (.int .i64 ((D:Nat):Int))).setCell ⟨w0.heap.size,1,none⟩ (.slice oa on oc)).setCell ⟨w0.heap.size,2,none⟩ (.slice ra rn rc)=dM at *
   have ke:=ι jK;have hce:=(CE.out.kp lF (fun z e=>by rw [e]; exact fF.out)).eq;have ir:=ι (show vG ((D:Nat):Int) (gs.map Ma.ah) w (.returned (.tuple #[.agg #[.int .i64 ((D:Nat):Int),.slice oa on oc,.slice ra rn rc],.int .i64 5])) dM from ⟨_,_,rfl,.inr ⟨HZ.out,D,gs,O,R,_,_,rfl,rfl,aZ,j1.out,cW.out,cN.out,rfl,hce,.inl ⟨by rw [dn.out]; exact wO,rfl⟩⟩,gR⟩);clear hce;clear jK lF gR;go_wp2;exact bodyPost_ret (bT (p:=2) (u:=3) rfl _ rfl rfl ke.out) rfl ir.out
  case neg =>
   skip
   go_upto_region 5 with fail
   refine b6<|i4 rfl<|i8 (d9 (.bool false) .neq (h:=ax _ (decide_eq_false (by decide))))<|i7 rfl<|i4 rfl ?_;go_frame
   refine i8 (d9 (.bool false) .gtr (h:=cw _ d6))<|i8 (ec _ _ _ rfl rfl rfl) ?_;go_frame
   go_upto_region 7 with fail
   refine b6<|i8 (d8 ((.agg #[.int .i64 ((D:Nat):Int),.slice oa on oc,.slice ra rn rc])) ⟨pT.heap.size,0,none⟩ (bh S1.out.c0 S1.out.c1 S1.out.c2))<|Rg.aF none rfl rfl (Rg.az _ _ _ rfl _ rfl _ rfl (bC _ _ _ _ _ _ _ FT.out))<|i4 rfl ?_;go_frame
   have jK:=FT.out.set (.int .i64 ((D:Nat):Int)) (.slice oa on oc) (.slice ra rn rc);have lF:=Rg.Kp.trans (Rg.Kp.trans (Rg.Kp.aS (M:=fun z=>z=w0.heap.size) (w:=PR) (a:=⟨w0.heap.size,0,none⟩) (v:=.int .i64 ((D:Nat):Int)) rfl) (Rg.Kp.aS (M:=fun z=>z=w0.heap.size) (a:=⟨w0.heap.size,1,none⟩) (v:=.slice oa on oc) rfl) (fun _ _ e=>e)) (Rg.Kp.aS (M:=fun z=>z=w0.heap.size) (a:=⟨w0.heap.size,2,none⟩) (v:=.slice ra rn rc) rfl) (fun _ _ e=>e);have gR:=((K.out.setCell (p:=⟨w0.heap.size,0,none⟩) jq.out (.int .i64 ((D:Nat):Int))).setCell (p:=⟨w0.heap.size,1,none⟩) jq.out (.slice oa on oc)).setCell (p:=⟨w0.heap.size,2,none⟩) jq.out (.slice ra rn rc);generalize ((PR.setCell ⟨w0.heap.size,0,none⟩ (.int .i64 ((D:Nat):Int))).setCell ⟨w0.heap.size,1,none⟩ (.slice oa on oc)).setCell ⟨w0.heap.size,2,none⟩ (.slice ra rn rc)=dM at *
   have ke:=ι jK;have hce:=(CE.out.kp lF (fun z e=>by rw [e]; exact fF.out)).eq;have ir:=ι (show vG ((D:Nat):Int) (gs.map Ma.ah) w (.returned (.tuple #[.agg #[.int .i64 ((D:Nat):Int),.slice oa on oc,.slice ra rn rc],.int .i64 0])) dM from ⟨_,_,rfl,.inr ⟨HZ.out,D,gs,O,R,_,_,rfl,rfl,aZ,j1.out,cW.out,cN.out,rfl,hce,.inr ⟨by rw [dn.out]; omega,rfl⟩⟩,gR⟩);clear hce;clear jK lF gR;go_wp2;exact bodyPost_ret (bT (p:=2) (u:=3) rfl _ rfl rfl ke.out) rfl ir.out
end Go.Proofs.YtbngdgfmlmkgiaaGreat

namespace Go.Proofs.YtbngdgfmlmkgiaaGreat
open Go.RowKit
open Go.Proofs
open Go.Proofs.Ob
open Go.Proofs.Cm (Gd Gr ar ap)
attribute [local irreducible] Go.Calls Go.wpList
theorem TW (args:Array Value) (w:World):(callFunc 30 args).run Tryz.prog w=.ok (.enter 30 args) w:=by kernel_rfl
def q8 (d:Int) (ll:List (List Int)) (xl:List Int):Int:=if Ma.bJ d ll=0 then (if Ma.cj xl=0 then (if (xl.length:Int)=d then 0 else 10) else Ma.cj xl) else Ma.bJ d ll
theorem G4 (h:Ma.bJ d ll≠0):q8 d ll xl=Ma.bJ d ll:=if_neg h
theorem G5 (h:Ma.bJ d ll=0) (h2:Ma.cj xl≠0):q8 d ll xl=Ma.cj xl:=by unfold q8; rw [if_pos h,if_neg h2]
theorem G6 (h:Ma.bJ d ll=0) (h2:Ma.cj xl=0) (h3:¬ (xl.length:Int)=d):q8 d ll xl=10:=by unfold q8; rw [if_pos h,if_pos h2,if_neg h3]
theorem NU (h:Ma.bJ d ll=0) (h2:Ma.cj xl=0) (h3:(xl.length:Int)=d):q8 d ll xl=0:=by unfold q8; rw [if_pos h,if_pos h2,if_pos h3]
theorem xP (h:q8 d ll xl=0):Ma.bJ d ll=0∧∃ x N,xl=Ma.ah x∧d=((N:Nat):Int)∧Gd N x:=by
 by_cases h1:Ma.bJ d ll=0
 ·by_cases h2:Ma.cj xl=0
  ·by_cases h3:(xl.length:Int)=d
   ·obtain ⟨x,rfl,hx⟩:=Ma.mn (Ma.jC h2).2.2
    rw [Ma.aG] at h3;exact ⟨h1,x,x.length,rfl,h3.symm,hx,rfl⟩
   ·rw [G6 h1 h2 h3] at h; cases h
  ·rw [G5 h1 h2] at h; exact absurd h h2
 ·rw [G4 h1] at h; exact absurd h h1
theorem Be (gv xv:Value) (d:Int) (ll:List (List Int)) (xl:List Int) (w:World) (h:Rg.Rows w gv ll) (hx:Rg.Ints w xv xl) :
  Calls Tryz.prog 30 #[.agg #[.int .i64 d,gv],xv] w fun e w'=>e=.returned (.int .i64 (q8 d ll xl))∧Below w.heap.size w w':=by
 obtain ⟨xa,xc,rfl,-⟩:=hx.shape;have HX:=ι (b_.mk hx);clear hx;obtain ⟨ga,gc,rfl,dS,eF⟩:=GI.enter (d) h;have K:=ι eF;have G0:=ι dS;clear h dS eF;obtain ⟨ck,eo⟩:∃ c,Hid (Ma.bJ d ll=c):=⟨_,ι rfl⟩;obtain ⟨pk,dR⟩:∃ c,Hid (Ma.cj xl=c):=⟨_,ι rfl⟩;replace HX:=ι (HX.out.below ((Below.refl _ _).alloc (Nat.le_refl _) (.cells #[.int .i64 d,.slice ga ll.length gc] 24)))
 go_enter Tryz.func30,Tryz.ntmps30
 go_upto_region 0 with fail
 refine b6<|i8 (Rg.ba _ _ rfl rfl)<|i4 rfl ?_;go_frame
 generalize w.alloc (.cells #[.int .i64 d,.slice ga ll.length gc] 24)=w0 at *;go_upto_region 1 with fail
 refine b6<|i8 (d8 (.agg #[.int .i64 d,.slice ga ll.length gc]) ⟨w.heap.size,0,none⟩ (aT G0.out.c0 G0.out.c1)) ?_;go_frame
 refine d4 8 (aq 34 _ _ rfl rfl (Au _ _)) ?_;refine (iD _ d ll w0 G0.out.rows).mono ?_;rintro e1 w1 ⟨rfl,hb⟩;rw [eo.out];refine ⟨_,rfl,?_⟩;go_frame;replace G0:=ι (G0.out.below hb);replace HX:=ι (HX.out.below hb);replace K:=ι (Rg.acc K.out hb);clear hb;refine i4 rfl ?_;go_frame
 by_cases h0:ck=0
 case neg =>
  skip
  go_upto_region 2 with fail
  refine b6<|i4 rfl<|i8 (d9 (.bool true) .neq (h:=ax _ (decide_eq_true h0))) ?_;go_frame
  go_upto_region 3 with fail
  refine b6<|i4 rfl<|i4 rfl ?_;go_frame
  go_wp2;go_ret;exact ⟨by rw [G4 (by rw [eo.out]; exact h0),eo.out]; rfl,K.out⟩
 case pos =>
  have HZ:=ι (eo.out.trans h0);go_upto_region 2 with fail
  refine b6<|i4 rfl<|i8 (d9 (.bool false) .neq (h:=ax _ (decide_eq_false (fun e=>e h0)))) ?_;go_frame
  clear h0;go_upto_region 4 with fail
  refine b6<|i5 rfl ?_;go_frame
  refine d4 13 (aq 53 _ _ rfl rfl (FA _ _)) ?_;refine (fp _ _ w1 HX.out.i).mono ?_;rintro e1 fX ⟨rfl,hb⟩;rw [dR.out];refine ⟨_,rfl,?_⟩;go_frame;replace G0:=ι (G0.out.below hb);replace HX:=ι (HX.out.below hb);replace K:=ι (Rg.acc K.out hb);clear hb;refine i4 rfl ?_;go_frame
  by_cases h1:pk=0
  case neg =>
   skip
   go_upto_region 5 with fail
   refine b6<|i4 rfl<|i8 (d9 (.bool true) .neq (h:=ax _ (decide_eq_true h1))) ?_;go_frame
   go_upto_region 6 with fail
   refine b6<|i4 rfl<|i4 rfl ?_;go_frame
   go_wp2;go_ret;exact ⟨by rw [G5 HZ.out (by rw [dR.out]; exact h1),dR.out]; rfl,K.out⟩
  case pos =>
   have HY:=ι (dR.out.trans h1);go_upto_region 5 with fail
   refine b6<|i4 rfl<|i8 (d9 (.bool false) .neq (h:=ax _ (decide_eq_false (fun e=>e h1)))) ?_;go_frame
   clear h1
   by_cases h2:(xl.length:Int)=d
   case neg =>
    skip
    go_upto_region 7 with fail
    refine b6<|i5 rfl<|i8 (e8 Tryz.underlying26)<|i8 (bL _ rfl rfl)<|i8 (d8 (.int .i64 d) ⟨w.heap.size,0,none⟩ (af G0.out.c0)) ?_;go_frame
    refine i8 (d9 (.bool true) .neq (h:=ax _ (decide_eq_true h2))) ?_;go_frame;go_upto_region 8 with fail
    refine b6<|i4 rfl ?_;go_frame
    go_wp2;go_ret;exact ⟨by rw [G6 HZ.out HY.out h2]; rfl,K.out⟩
   case pos =>
    skip
    go_upto_region 7 with fail
    refine b6<|i5 rfl<|i8 (e8 Tryz.underlying26)<|i8 (bL _ rfl rfl)<|i8 (d8 (.int .i64 d) ⟨w.heap.size,0,none⟩ (af G0.out.c0)) ?_;go_frame
    refine i8 (d9 (.bool false) .neq (h:=ax _ (decide_eq_false (fun e=>e h2)))) ?_;go_frame;go_upto_region 9 with fail
    refine b6<|i4 rfl ?_;go_frame
    go_wp2;go_ret;exact ⟨by rw [NU HZ.out HY.out h2]; rfl,K.out⟩
theorem xQ (gv xv:Value) (d:Int) (ll:List (List Int)) (xl:List Int) (w:World) (h:Rg.Rows w gv ll) (hx:Rg.Ints w xv xl) :
  Calls Tryz.prog 31 #[.agg #[.int .i64 d,gv],xv] w fun e w'=>e=.returned (.int .i64 (q8 d ll xl))∧Below w.heap.size w w':=by
 obtain ⟨xa,xc,rfl,-⟩:=hx.shape;have HX:=ι (b_.mk hx);clear hx;obtain ⟨ga,gc,rfl,dS,eF⟩:=GI.enter (d) h;have K:=ι eF;have G0:=ι dS;clear h dS eF;obtain ⟨ck,eo⟩:∃ c,Hid (Ma.bJ d ll=c):=⟨_,ι rfl⟩;obtain ⟨pk,dR⟩:∃ c,Hid (Ma.cj xl=c):=⟨_,ι rfl⟩;replace HX:=ι (HX.out.below ((Below.refl _ _).alloc (Nat.le_refl _) (.cells #[.int .i64 d,.slice ga ll.length gc] 24)))
 go_enter Tryz.func31,Tryz.ntmps31
 go_upto_region 0 with fail
 refine b6<|i8 (Rg.ba _ _ rfl rfl)<|i4 rfl ?_;go_frame
 generalize w.alloc (.cells #[.int .i64 d,.slice ga ll.length gc] 24)=w0 at *;go_upto_region 1 with fail
 refine b6<|i8 (d8 (.agg #[.int .i64 d,.slice ga ll.length gc]) ⟨w.heap.size,0,none⟩ (aT G0.out.c0 G0.out.c1)) ?_;go_frame
 refine d4 8 (aq 54 _ _ rfl rfl (MG _ _)) ?_;refine (nS _ d ll w0 G0.out.rows).mono ?_;rintro e1 w1 ⟨rfl,hb⟩;rw [eo.out];refine ⟨_,rfl,?_⟩;go_frame;replace G0:=ι (G0.out.below hb);replace HX:=ι (HX.out.below hb);replace K:=ι (Rg.acc K.out hb);clear hb;refine i4 rfl ?_;go_frame
 by_cases h0:ck=0
 case neg =>
  skip
  go_upto_region 2 with fail
  refine b6<|i4 rfl<|i8 (d9 (.bool true) .neq (h:=ax _ (decide_eq_true h0))) ?_;go_frame
  go_upto_region 3 with fail
  refine b6<|i4 rfl<|i4 rfl ?_;go_frame
  go_wp2;go_ret;exact ⟨by rw [G4 (by rw [eo.out]; exact h0),eo.out]; rfl,K.out⟩
 case pos =>
  have HZ:=ι (eo.out.trans h0);go_upto_region 2 with fail
  refine b6<|i4 rfl<|i8 (d9 (.bool false) .neq (h:=ax _ (decide_eq_false (fun e=>e h0)))) ?_;go_frame
  clear h0;go_upto_region 4 with fail
  refine b6<|i5 rfl ?_;go_frame
  refine d4 13 (aq 55 _ _ rfl rfl (tN _ _)) ?_;refine (cy _ _ w1 HX.out.i).mono ?_;rintro e1 fX ⟨rfl,hb⟩;rw [dR.out];refine ⟨_,rfl,?_⟩;go_frame;replace G0:=ι (G0.out.below hb);replace HX:=ι (HX.out.below hb);replace K:=ι (Rg.acc K.out hb);clear hb;refine i4 rfl ?_;go_frame
  by_cases h1:pk=0
  case neg =>
   skip
   go_upto_region 5 with fail
   refine b6<|i4 rfl<|i8 (d9 (.bool true) .neq (h:=ax _ (decide_eq_true h1))) ?_;go_frame
   go_upto_region 6 with fail
   refine b6<|i4 rfl<|i4 rfl ?_;go_frame
   go_wp2;go_ret;exact ⟨by rw [G5 HZ.out (by rw [dR.out]; exact h1),dR.out]; rfl,K.out⟩
  case pos =>
   have HY:=ι (dR.out.trans h1);go_upto_region 5 with fail
   refine b6<|i4 rfl<|i8 (d9 (.bool false) .neq (h:=ax _ (decide_eq_false (fun e=>e h1)))) ?_;go_frame
   clear h1
   by_cases h2:(xl.length:Int)=d
   case neg =>
    skip
    go_upto_region 7 with fail
    refine b6<|i5 rfl<|i8 (e8 Tryz.underlying26)<|i8 (bL _ rfl rfl)<|i8 (d8 (.int .i64 d) ⟨w.heap.size,0,none⟩ (af G0.out.c0)) ?_;go_frame
    refine i8 (d9 (.bool true) .neq (h:=ax _ (decide_eq_true h2))) ?_;go_frame;go_upto_region 8 with fail
    refine b6<|i4 rfl ?_;go_frame
    go_wp2;go_ret;exact ⟨by rw [G6 HZ.out HY.out h2]; rfl,K.out⟩
   case pos =>
    skip
    go_upto_region 7 with fail
    refine b6<|i5 rfl<|i8 (e8 Tryz.underlying26)<|i8 (bL _ rfl rfl)<|i8 (d8 (.int .i64 d) ⟨w.heap.size,0,none⟩ (af G0.out.c0)) ?_;go_frame
    refine i8 (d9 (.bool false) .neq (h:=ax _ (decide_eq_false (fun e=>e h2)))) ?_;go_frame;go_upto_region 9 with fail
    refine b6<|i4 rfl ?_;go_frame
    go_wp2;go_ret;exact ⟨by rw [NU HZ.out HY.out h2]; rfl,K.out⟩
def G7 (d:Int) (ll:List (List Int)) (xl:List Int) (l:List Int) (c:Int):Prop :=
 (q8 d ll xl≠0∧c=q8 d ll xl∧l=[]) ∨
  (q8 d ll xl=0∧∃ (N:Nat) (gs:List (List Nat)) (O:List (List Nat)) (R:List (List (List Nat))) (x:List Nat),d=((N:Nat):Int)∧ll=gs.map Ma.ah∧xl=Ma.ah x∧Gd N x∧(∀ s∈gs,Gd N s)∧ar N (Cm.Gr N (·∈gs)) O R ∧
   ((5040<bQ O N N∧c=5∧l=[]) ∨
   (bQ O N N≤5040∧∃ st:cF,iO (ak gs) N st∧((x∉st.1∧c=18∧l=[])∨(x∈st.1∧c=0∧l=bj st x)))))
def II (d:Int) (ll:List (List Int)) (xl:List Int) (w:World) (ed:Ending) (w':World):Prop:=∃ v l c,ed=.returned (.tuple #[v,.int .i64 c])∧G7 d ll xl l c∧Rg.Ints w' v l∧Below w.heap.size w w'
theorem Bf (gv xv:Value) (d:Int) (ll:List (List Int)) (xl:List Int) (w:World) (h:Rg.Rows w gv ll) (hx:Rg.Ints w xv xl) (hd:d≤12∨64<d) :
  Calls Tryz.prog 10 #[.agg #[.int .i64 d,gv],xv] w (II d ll xl w):=by
 obtain ⟨xa,xc,rfl,-⟩:=hx.shape;have HX:=ι (b_.mk hx);clear hx;obtain ⟨ga,gc,rfl,dS,eF⟩:=GI.enter (d) h;have K:=ι eF;have G0:=ι dS;clear h dS eF;obtain ⟨rk,vt⟩:∃ c,Hid (q8 d ll xl=c):=⟨_,ι rfl⟩;replace HX:=ι (HX.out.below ((Below.refl _ _).alloc (Nat.le_refl _) (.cells #[.int .i64 d,.slice ga ll.length gc] 24)))
 go_enter Tryz.func10,Tryz.ntmps10
 go_upto_region 0 with fail
 refine b6<|i8 (Rg.ba _ _ rfl rfl)<|i5 rfl<|i4 rfl ?_;go_frame
 generalize w.alloc (.cells #[.int .i64 d,.slice ga ll.length gc] 24)=w0 at *;go_upto_region 1 with fail
 refine b6<|i8 (d8 (.agg #[.int .i64 d,.slice ga ll.length gc]) ⟨w.heap.size,0,none⟩ (aT G0.out.c0 G0.out.c1))<|i5 rfl ?_;go_frame
 refine d4 14 (aD 30 _ _ _ rfl rfl rfl (TW _ _)) ?_;refine (Be _ _ d ll xl w0 G0.out.rows HX.out.i).mono ?_;rintro e1 w1 ⟨rfl,hb⟩;rw [vt.out];refine ⟨_,rfl,?_⟩;go_frame;replace G0:=ι (G0.out.below hb);replace HX:=ι (HX.out.below hb);replace K:=ι (Rg.acc K.out hb);clear hb;refine i4 rfl ?_;go_frame
 by_cases h0:rk=0
 case neg =>
  skip
  go_upto_region 2 with fail
  refine b6<|i4 rfl<|i8 (d9 (.bool true) .neq (h:=ax _ (decide_eq_true h0))) ?_;go_frame
  go_upto_region 3 with fail
  refine b6<|i4 rfl<|i5 rfl<|i4 rfl ?_;go_frame
  go_wp2
  go_ret2
  exact ⟨_,[],rk,rfl,.inl ⟨by rw [vt.out]; exact h0,vt.out.symm,rfl⟩,dQ _,K.out⟩
 case pos =>
  have HZ:=ι (vt.out.trans h0);obtain ⟨DV,x,N0,NZ,PS,gx⟩:=xP HZ.out;have N1:=ι DV;have yT:=ι NZ;have TX:=ι PS;have yU:=ι gx;clear DV NZ PS gx;go_upto_region 2 with fail
  refine b6<|i4 rfl<|i8 (d9 (.bool false) .neq (h:=ax _ (decide_eq_false (fun e=>e h0)))) ?_;go_frame
  clear h0;go_upto_region 4 with fail
  refine b6<|i8 (d8 (.agg #[.int .i64 d,.slice ga ll.length gc]) ⟨w.heap.size,0,none⟩ (aT G0.out.c0 G0.out.c1)) ?_;go_frame
  refine d4 20 (aq 17 _ _ rfl rfl (GH _ _)) ?_;refine (po _ d ll w1 G0.out.rows hd).mono ?_;rintro e1 fX ⟨fa,fn,fc,mo,c,rfl,DS,hb⟩;have SR:=ι DS;clear DS;refine ⟨_,rfl,?_⟩;go_frame;replace G0:=ι (G0.out.below hb);replace HX:=ι (HX.out.below hb);replace K:=ι (Rg.acc K.out hb);clear hb
  refine i3 (.tuple #[.slice fa fn fc,(.map mo),.int .i64 c]) rfl<|i8 (f8 (.slice fa fn fc))<|i8 (f8 ((.map mo)))<|i8 (f8 (.int .i64 c))<|i5 rfl ?_;go_frame
  refine i3 ((.map mo)) rfl<|i4 rfl ?_;go_frame
  rcases SR.out with ⟨h1,-,-⟩ | ⟨h1,N,gs,O,R,e1,e2,dT,dm,cD,bH,⟨h2,rfl,-⟩ | ⟨h2,rfl,mb,vs,st,rfl,kh,js,hl,nX,yG⟩⟩
  ·exact absurd N1.out h1
  ·skip
   have TY:N0=N:=by have:=TX.out; omega
   subst TY;go_upto_region 5 with fail
   refine b6<|i4 rfl<|i8 (d9 (.bool true) .neq (h:=ax _ (decide_eq_true (by decide)))) ?_;go_frame
   go_upto_region 6 with fail
   refine b6<|i4 rfl<|i5 rfl<|i4 rfl ?_;go_frame
   go_wp2
   go_ret2
   exact ⟨_,[],5,rfl,.inr ⟨HZ.out,_,gs,O,R,x,e1,e2,yT.out,yU.out,cD,bH,.inl ⟨h2,rfl,rfl⟩⟩,dQ _,K.out⟩
  ·skip
   have TY:N0=N:=by have:=TX.out; omega
   subst TY;have yO:=ι yG;have ix:=ι js;have sK:=ι kh
   have DW:N0≤12:=by have:=TX.out; obtain ⟨D9,_,e9,_,_,_,s5,_⟩:=iz (xP HZ.out).1; omega
   have NX:=ι (show b_ fX (.slice xa xl.length xc) (Ma.ah x) from ⟨by have h9:=HX.out.i; generalize Value.slice xa xl.length xc=v9 at h9 ⊢; rw [yT.out] at h9; exact h9⟩);obtain ⟨xn,WS⟩:∃ n,Hid (xl.length=n):=⟨_,ι rfl⟩;clear yG js kh SR;go_upto_region 5 with fail
   refine b6<|i4 rfl<|i8 (d9 (.bool false) .neq (h:=ax _ (decide_eq_false (by decide)))) ?_;go_frame
   by_cases aB:x∈st.1
   case neg =>
    have Ci:=ι (xC (vs:=vs) (fun y hy=>jB (ix.out.gd y hy) (by omega)) (jB yU.out (by omega)) aB);go_upto_region 7 with fail
    refine b6<|i3 ((.map (some mb))) rfl<|i5 rfl ?_;go_frame
    refine d4 30 (aq 22 _ _ rfl rfl (mi _ _)) ?_;refine (iB (x:=x) NX.out.i (by rw [yU.out.2]; exact dT) (by rw [yU.out.2]; omega) (jB yU.out (by omega))).mono ?_;rintro e1 Lq ⟨rfl,hb⟩;refine ⟨_,rfl,?_⟩;go_frame;replace G0:=ι (G0.out.below hb);replace yO:=ι (yO.out.below hb);replace NX:=ι (NX.out.below hb);replace K:=ι (Rg.acc K.out hb);clear hb;have eA:=Sm.jD iC yO.out.map (dz x);rw [Ci.out,Option.getD_none,Option.isSome_none] at eA;refine i8 (Rg.eP _ _ _ _ rfl _ _ rfl rfl eA) ?_;go_frame;clear eA
    refine i3 (.tuple #[(.slice none 0 0),.bool false]) rfl<|i8 (f8 ((.slice none 0 0)))<|i8 (f8 (.bool false))<|i3 ((.slice none 0 0)) rfl<|i7 rfl ?_;go_frame
    go_upto_region 8 with fail
    refine b6<|i7 rfl<|i8 (bE _ _ false rfl rfl) ?_;go_frame
    go_upto_region 9 with fail
    refine b6<|i5 rfl<|i4 rfl ?_;go_frame
    go_wp2
    go_ret2
    exact ⟨_,[],18,rfl,.inr ⟨HZ.out,_,gs,O,R,x,e1,e2,yT.out,yU.out,cD,bH,.inr ⟨h2,st,sK.out,.inl ⟨aB,rfl,rfl⟩⟩⟩,dQ _,K.out⟩
   case pos =>
    have s8:st.1.idxOf x<st.1.length:=List.idxOf_lt_length_of_mem aB;obtain ⟨wv,qX⟩:∃ q,Hid (vs[st.1.idxOf x]?=some q):=⟨_,ι (List.getElem?_eq_getElem (by rw [yO.out.vl]; exact s8))⟩
    have oh:st.2[st.1.idxOf x]?=some (bj st x):=by
     have h9:st.1.idxOf x<st.2.length:=by rw [ix.out.ln]; exact s8
     unfold bj;rw [List.getD_eq_getElem?_getD,List.getElem?_eq_getElem h9]; rfl
    obtain ⟨J1,wb,wo,wc,A8⟩:=yO.out.word qX.out oh;subst A8;have EW:=ι J1;have yN:=ι (mX ix.out.nd (fun y hy=>jB (ix.out.gd y hy) (by omega)) (x:=x) (by rw [List.getElem?_eq_getElem s8,List.getElem_idxOf]) qX.out);clear J1 oh s8;go_upto_region 7 with fail
    refine b6<|i3 ((.map (some mb))) rfl<|i5 rfl ?_;go_frame
    refine d4 30 (aq 22 _ _ rfl rfl (mi _ _)) ?_;refine (iB (x:=x) NX.out.i (by rw [yU.out.2]; exact dT) (by rw [yU.out.2]; omega) (jB yU.out (by omega))).mono ?_;rintro e1 Pl ⟨rfl,hb⟩;refine ⟨_,rfl,?_⟩;go_frame;replace G0:=ι (G0.out.below hb);replace yO:=ι (yO.out.below hb);replace NX:=ι (NX.out.below hb);replace EW:=ι (EW.out.below hb);replace K:=ι (Rg.acc K.out hb);clear hb;have eA:=Sm.jD iC yO.out.map (dz x);rw [yN.out,Option.getD_some,Option.isSome_some] at eA;refine i8 (Rg.eP _ _ _ _ rfl _ _ rfl rfl eA) ?_;go_frame;clear eA
    refine i3 (.tuple #[.slice (some ⟨wb,wo,none⟩) (bj st x).length wc,.bool true]) rfl<|i8 (f8 (.slice (some ⟨wb,wo,none⟩) (bj st x).length wc))<|i8 (f8 (.bool true))<|i5 rfl<|i7 rfl ?_;go_frame
    go_upto_region 8 with fail
    refine b6<|i7 rfl<|i8 (bE _ _ true rfl rfl) ?_;go_frame
    go_upto_region 10 with fail
    refine b6<|i5 rfl<|i5 rfl<|i4 rfl ?_;go_frame
    go_wp2
    go_ret2
    exact ⟨_,_,0,rfl,.inr ⟨HZ.out,_,gs,O,R,x,e1,e2,yT.out,yU.out,cD,bH,.inr ⟨h2,st,sK.out,.inr ⟨aB,rfl,rfl⟩⟩⟩,EW.out.ints,K.out⟩
end Go.Proofs.YtbngdgfmlmkgiaaGreat

namespace Go.Proofs.YtbngdgfmlmkgiaaGreat
open Go.RowKit
open Go.Proofs
open Go.Proofs.Ob
open Go.Proofs.Cm (Gd Gr ar ap)
def IJ (l:List (List Int)):Prop:=l.Pairwise fun a b=>a.length≤b.length
theorem xR {x:List Nat} {wd:List Int}:∀ (l:List (List Nat × Int)) (st:cF),IJ st.2→(∀ u∈st.2,u.length≤wd.length+1)→IJ (l.foldl (bm x wd) st).2∧∀ u∈(l.foldl (bm x wd) st).2,u.length≤wd.length+1
 | [],st,h1,h2=>⟨h1,h2⟩
 | y :: l,st,h1,h2=>by
  have key:IJ (bm x wd st y).2∧∀ u∈(bm x wd st y).2,u.length≤wd.length+1:=by
   unfold bm
   split
   ·exact ⟨h1,h2⟩
   ·refine ⟨List.pairwise_append.2 ⟨h1,by simp,fun a ha b hb=>?_⟩,fun u hu=>?_⟩
    ·rw [List.mem_singleton] at hb; subst hb
     have:=h2 a ha
     simpa using this
    ·rcases List.mem_append.1 hu with hu | hu
     ·exact h2 u hu
     ·rw [List.mem_singleton] at hu; subst hu; simp
  exact xR l _ key.1 key.2
theorem zM {N:Nat} {ml:List (List Nat × Int)} (hm:∀ y∈ml,Gd N y.1):∀ i,IJ (aI ml N i).2∧∀ w,(aI ml N i).2[i]?=some w→∀ u∈(aI ml N i).2,u.length≤w.length+1
 | 0=>⟨List.pairwise_singleton _ _,fun w _ u hu=>by
  have hu:u∈([[]]:List (List Int)):=hu;rw [List.mem_singleton] at hu
  rw [hu]; exact Nat.zero_le _⟩
 | i+1=>by
  obtain ⟨Xs,ih2⟩:=zM hm i;have hb:=gA (N:=N) hm i
  by_cases h:i<(aI ml N i).1.length
  ·have e3:aI ml N (i+1)=dC ml (aI ml N i) i:=by
    show (if i<(aI ml N i).1.length then dC ml (aI ml N i) i else aI ml N i)=_;rw [if_pos h]
   have h2:i<(aI ml N i).2.length:=by rw [hb.ln]; exact h
   have e4:(aI ml N i).2.getD i []=(aI ml N i).2[i]:=by rw [List.getD_eq_getElem?_getD,List.getElem?_eq_getElem h2]; rfl
   have hf:=xR (x:=(aI ml N i).1.getD i []) (wd:=(aI ml N i).2.getD i []) ml (aI ml N i) Xs (by rw [e4]; exact ih2 _ (List.getElem?_eq_getElem h2));obtain ⟨t,ht⟩:=(fU ml N i).2;rw [e3] at ht ⊢;refine ⟨hf.1,fun w hw u hu=>?_⟩;have h5:=hf.2 u hu;rw [e4] at h5;have sZ:i+1<(dC ml (aI ml N i) i).2.length:=(List.getElem?_eq_some_iff.1 hw).1
   have h6:(dC ml (aI ml N i) i).2[i]'(by omega)=(aI ml N i).2[i]:=by
    have h7:(dC ml (aI ml N i) i).2[i]?=some (aI ml N i).2[i]:=by rw [← ht,List.getElem?_append_left h2,List.getElem?_eq_getElem h2]
    rw [List.getElem?_eq_getElem (by omega)] at h7;exact Option.some.inj h7
   have h8:=List.pairwise_iff_getElem.1 hf.1 i (i+1) (by show i<(dC ml (aI ml N i) i).2.length; omega) sZ (by omega);have h9:(dC ml (aI ml N i) i).2[i+1]=w:=(List.getElem?_eq_some_iff.1 hw).2
   have h10:((aI ml N i).2[i]).length≤w.length:=by
    rw [← h6,← h9]; exact h8
   omega
  ·have e3:aI ml N (i+1)=aI ml N i:=by
    show (if i<(aI ml N i).1.length then dC ml (aI ml N i) i else aI ml N i)=_;rw [if_neg h]
   rw [e3];refine ⟨Xs,fun w hw=>?_⟩;have:=(List.getElem?_eq_some_iff.1 hw).1;rw [hb.ln] at this;omega
theorem iO.last (hg:∀ s∈gs,Gd N s) {st:cF} (h:iO (ak gs) N st) {w:List Int} (hw:st.2[st.2.length - 1]?=some w):∀ u∈st.2,u.length≤w.length:=fun u hu=>by
 obtain ⟨i,rfl,_⟩:=h;have hm:=(zM (du hg) i).1;obtain ⟨j,hj,e⟩:=List.getElem_of_mem hu;obtain ⟨h1,h2⟩:=List.getElem?_eq_some_iff.1 hw
 by_cases q:j=(aI (ak gs) N i).2.length - 1
 ·subst q
  rw [← e,← h2]; exact Nat.le_refl _
 ·have:=List.pairwise_iff_getElem.1 hm j _ hj h1 (by omega)
  rw [← e,← h2]; exact this
end Go.Proofs.YtbngdgfmlmkgiaaGreat

namespace Go.Proofs.YtbngdgfmlmkgiaaGreat
open Go.RowKit
open Go.Proofs
open Go.Proofs.Ob
open Go.Proofs.Cm (Gd Gr ar ap)
attribute [local irreducible] Go.Calls Go.wpList
theorem TZ (args:Array Value) (w:World):(callFunc 29 args).run Tryz.prog w=.ok (.enter 29 args) w:=by kernel_rfl
def Xt (g n cap:Nat) (f:Nat→Int) (j:Nat) (w:World) (ed:Ending) (w':World):Prop:=ed=.returned (.slice (some ⟨g,0,none⟩) n cap)∧dy w' g n (fun i=>if i=j then f j+1 else f i)∧∀ (B':Nat) (W0:World),B'≤g→B'≤w.heap.size→Below B' W0 w→Below B' W0 w'
theorem Bg {bx g:Nat} {st:cF} {f:Nat→Int} {x:List Nat} {w:World} (h:dy w g n f) (hq:xK B w mb st vs) (js:BI N st) (dT:1≤N) (hN:N≤64) (hc:CL w bx 0 (.map (some mb))) (hx:Rg.NP w xv x) (hm:x∈st.1) (hj:(bj st x).length<n) (hf:-1≤f (bj st x).length∧f (bj st x).length≤100000) :
  Calls Tryz.prog 29 #[.slice (some ⟨g,0,none⟩) n cap,xv,.pointer (some ⟨bx,0,none⟩)] w (Xt g n cap f (bj st x).length w):=by
 have RW:=ι h;have HQ:=ι hq;have CB:=ι hc;have NX:=ι (b_.mk hx);have GX:=ι (js.gd x hm);obtain ⟨wv,eA,vr⟩:=hq.get js hN hm;have yN:=ι eA;obtain ⟨wa,wc,A8,-⟩:=vr.ints.shape;subst A8;clear h hq js hc hx eA vr hm;generalize (bj st x).length=j at *;have HJ:=ι hj
 go_enter Tryz.func29,Tryz.ntmps29
 go_upto_region 0 with fail
 refine b6<|i5 rfl ?_;go_frame
 have cO:Below w.heap.size w w.drew:=(Below.refl _ _).drew;replace RW:=ι (RW.out.below cO);replace HQ:=ι (HQ.out.below cO);replace CB:=ι (CB.out.below cO);replace NX:=ι (NX.out.below cO);have HSV:=ι cO.size;have KD:=ι (fun (B':Nat) (W0:World) (hb:Below B' W0 w)=>hb.drew);have CJ:=ι (CL.mk (RW.out.2.1 j HJ.out) RW.out.1);rw [← Nat.zero_add j] at CJ;clear cO;go_upto_region 1 with fail;have aw:Below w.heap.size w w.drew:=(Below.refl _ _).drew;generalize cx (fun _:Nat=>True) w w.drew=F1 at *;clear aw;refine Rg.Any.begin (S:=Rg.aH 10 (fun W=>Below w.drew.heap.size w.drew W) (fun _=>True)) mix ?_;generalize w.drew=w1 at *;have hS:∀ (l:Array Bool) W,Below w1.heap.size w1 W→Rg.aH 10 (fun W=>Below w1.heap.size w1 W) (fun _=>True) l W:=fun l W h=>⟨.inr h,trivial⟩;have dF:∀ (l:Array Bool) W,l.getD 10 false=true→Rg.aH 10 (fun W=>Below w1.heap.size w1 W) (fun _=>True) l W:=fun l W h=>⟨.inl h,trivial⟩
 have hI:Below w1.heap.size w1 w1:=Below.refl _ _
 refine c8 0 10 (.slice (some ⟨g,0,none⟩) n cap) 6 (hS _ _ hI)<|f9 1 10 ((.map (some mb))) 7 rfl rfl (g6 ⟨bx,0,none⟩ (fun W hW=>pn ((Below.cell (p:=⟨bx,0,none⟩) hW CB.out.lt).trans CB.out.cell))) (hS _ _ hI)<|c8 2 10 (xv) 8 (hS _ _ hI) ?_;go_frame
 refine Rg.Any.one (i:=3) (by kernel_rfl) (Rg.Any.ask (some 9) rfl rfl rfl _ _ (aq 22 _ _ rfl rfl (mi _ _)) ?_);refine (iB NX.out.i (by rw [GX.out.2]; exact dT) (by rw [GX.out.2]; exact hN) (jB GX.out hN)).mono ?_;rintro e1 w2 ⟨rfl,hb⟩;have dg:=Rg.acc hI hb;clear hI;generalize cx F1 w1 w2=F2 at *;clear hb;refine ⟨_,rfl,(hS _ _ dg),?_⟩;go_frame;have eA:=Sm.jE iC (HQ.out.map.below dg) (dz x);rw [yN.out,Option.getD_some] at eA
 refine g5 4 10 rfl rfl (Rg.eP _ _ _ _ rfl _ _ rfl rfl eA) (hS _ _ dg)<|c7 5 10 (.int .i64 ((j:Nat):Int)) 11 rfl rfl (g7 fun w=>cZ _ _ _ rfl Tryz.underlying35 _ _ _ rfl) (hS _ _ dg)<|c7 6 10 (.pointer (some ⟨g,0+j,none⟩)) 12 rfl rfl (Rg.ai aX _ _ rfl rfl g (0) (n) cap (j) rfl rfl HJ.out) (hS _ _ dg)<|f9 7 10 (.int .i64 (f (0+j))) 13 rfl rfl (g6 ⟨g,0+j,none⟩ (fun W hW=>af ((Below.cell (p:=⟨g,0+j,none⟩) hW CJ.out.lt).trans CJ.out.cell))) (hS _ _ dg)<|c7 8 10 (.int .i64 (f (0+j)+1)) 14 rfl rfl (g7 fun w=>cC (R:=.int .i64 (f (0+j)+1)) .add _ _ _ rfl rfl rfl (bI _ (by first | rfl | (have:=hf.1; have:=hf.2; simp only [Nat.zero_add]; omega)) (by first | rfl | (have:=hf.1; have:=hf.2; simp only [Nat.zero_add]; omega)))) (hS _ _ dg) ?_;go_frame
 refine c7 9 10 (.pointer (some ⟨g,0+j,none⟩)) 15 rfl rfl (Rg.ai aX _ _ rfl rfl g (0) (n) cap (j) rfl rfl HJ.out) (hS _ _ dg) ?_;go_frame;have GD:=dg;have IK:=(RW.out.below GD).set j (f (0+j)+1) HJ.out;refine Rg.Any.one (i:=10) (by kernel_rfl) (Rg.Any.fl none rfl rfl rfl (Rg.az _ _ _ rfl _ rfl _ rfl (ee (f (0+j)+1) (show _=some (.int .i64 (f j)) from by rw [Nat.zero_add]; exact (RW.out.below GD).2.1 j HJ.out) ((RW.out.below GD).2.2 (0+j)))) (dF _ _ rfl) ?_);go_frame;refine Rg.Any.done (by kernel_rfl) ?_ _;clear dF;clear hS dg;go_wp2;go_ret;simp only [Nat.zero_add] at IK ⊢;exact ⟨rfl,IK,fun B' W0 h1 h2 h3=>((KD.out B' W0 h3).trans (GD.mono (Nat.le_trans h2 HSV.out))).setCell (p:=⟨g,j,none⟩) h1 _⟩

def gT (st:cF) (S:List (List Nat)) (i:Nat):Int:=((S.countP fun x=>decide ((bj st x).length=i):Nat):Int)
theorem zN (st:cF) (S:List (List Nat)) (x:List Nat) (i:Nat):gT st (S++[x]) i=if i=(bj st x).length then gT st S (bj st x).length+1 else gT st S i:=by
 unfold gT;rw [List.countP_append,List.countP_singleton]
 by_cases e:i=(bj st x).length
 ·subst e; simp
 ·rw [if_neg e,if_neg (by simpa using fun h=>e h.symm)]; simp
theorem IL (st:cF) (S:List (List Nat)) (i:Nat):0≤gT st S i∧gT st S i≤(S.length:Int):=by
 unfold gT;have:=List.countP_le_length (p:=fun x=>decide ((bj st x).length=i)) (l:=S);omega
theorem G8 {bx:Nat} {st:cF} {S:List (List Nat)} {w:World} (hr:Rg.Rows w0 xv (S.map Ma.ah)) (hS:∀ x∈S,x∈st.1∧(bj st x).length<n) (hl:S.length≤5040) (hq:xK B w0 mb st vs) (js:BI N st) (dT:1≤N) (hN:N≤64) (hc:CL w0 bx 0 (.map (some mb))) (hk:Below w0.heap.size w0 w) (hw:dy w w0.heap.size n (fun _=>0)) :
  Calls Tryz.prog 28 #[xv,.slice (some ⟨w0.heap.size,0,none⟩) n cap,(.func (.func 29) #[] #[.pointer (some ⟨bx,0,none⟩)])] w fun ed w'=>ed=.returned (.slice (some ⟨w0.heap.size,0,none⟩) n cap)∧dy w' w0.heap.size n (gT st S)∧Below w0.heap.size w0 w':=by
 obtain ⟨xa,xc,e0,-⟩:=hr.shape;obtain ⟨m,hm⟩:∃ m,Hid (S.length=m):=⟨_,ι rfl⟩;rw [List.length_map,hm.out] at e0;subst e0;have HR:=ι hr;have HS:=ι hS;have J7:=ι hq;have ix:=ι js;have TJ:=ι hc
 have hm5:m≤5040:=by rw [← hm.out]; exact hl
 have J8:=ι (show dy w w0.heap.size n (gT st (S.take 0)) from hw);have K0:=ι hk;obtain ⟨g,hg⟩:∃ g,Hid (w0.heap.size=g):=⟨_,ι rfl⟩;rw [hg.out] at J8 ⊢;clear hr hS hq js hc hl hk hw
 go_enter Tryz.func28,Tryz.ntmps28
 go_upto_region 0 with fail
 refine b6<|i5 rfl ?_;go_frame
 go_upto_region 1 with fail
 refine b6<|i5 rfl<|i8 (e8 Tryz.underlying22)<|i4 rfl ?_;go_frame
 go_wp2
 go_loopw [1,11] (fun vv iv wr=>∃ i:Nat,vv=.slice (some ⟨g,0,none⟩) n cap∧iv=.int .i64 ((i:Nat):Int)∧i≤m∧Hid (dy wr g n (gT st (S.take i)))∧Hid (Below w0.heap.size w0 wr)) (fun _ iv _=>m - (intOf iv).toNat)
 case atStart=>exact ⟨0,rfl,rfl,Nat.zero_le _,J8,K0⟩
 case round =>
  clear J8 K0;obtain ⟨i,rfl,rfl,hi,RW,K⟩:=hrel
  by_cases fS:i<m
  case neg =>
   have HT:=ι (show S.take i=S from List.take_of_length_le (by have:=hm.out; omega));go_upto_region 2 with fail
   refine b6<|i8 (d9 (.bool false) .lss (h:=aL _ d6)) ?_;go_frame
   go_upto_region 6 with fail
   refine b6<|i5 rfl<|i5 rfl ?_;go_frame
   go_wp2;go_ret;exact ⟨rfl,by have:=RW.out; rwa [HT.out] at this,by rw [← hg.out]; exact K.out⟩
  case pos =>
   have eW:=ι fS
   have xL:i<S.length:=by rw [hm.out]; exact fS
   obtain ⟨b,o,ua,uc,e1,dG,cr,GK⟩:=cQ HR.out (i:=i) (by rw [List.length_map]; exact xL);subst e1;obtain ⟨x,hx⟩:∃ x,Hid (S[i]'xL=x):=⟨_,ι rfl⟩
   have e5:((S.map Ma.ah)[i]'(by rw [List.length_map]; exact xL))=Ma.ah x:=by rw [List.getElem_map,hx.out]
   rw [e5] at cr GK;have CX:=ι ((CL.mk cr dG).below K.out);have NX:=ι (b_.below (b_.mk GK) K.out);have HQ:=ι (J7.out.below K.out);have CB:=ι (TJ.out.below K.out);have qG:=ι (show x∈st.1∧(bj st x).length<n from hx.out▸HS.out _ (List.getElem_mem xL))
   have mU:=ι (show -1≤gT st (S.take i) (bj st x).length∧gT st (S.take i) (bj st x).length≤100000 by
    have:=IL st (S.take i) (bj st x).length
    have h2:(S.take i).length≤5040:=by rw [List.length_take]; omega
    omega)
   have uZ:=ι (show ∀ k,(if k=(bj st x).length then gT st (S.take i) (bj st x).length+1 else gT st (S.take i) k)=gT st (S.take (i+1)) k from fun k=>by rw [List.take_succ_eq_append_getElem xL,hx.out,zN]);clear dG cr GK e5;go_upto_region 2 with fail
   refine b6<|i8 (d9 (.bool true) .lss (h:=aL _ d5)) ?_;go_frame
   go_upto_region 3 with fail
   refine b6<|i8 (ag aE _ _ rfl b (o) (m) xc (i) rfl rfl eW.out)<|i8 (d8 ((.slice ua (Ma.ah x).length uc)) ⟨b,o+i,none⟩ (Rg.ae _ _ Tryz.underlying26 CX.out.cell))<|i3 ((.slice ua (Ma.ah x).length uc)) rfl ?_;go_frame
   go_upto_region 4 with fail
   refine b6<|i3 ((.func (.func 29) #[] #[.pointer (some ⟨bx,0,none⟩)])) rfl<|i5 rfl<|i3 ((.slice ua (Ma.ah x).length uc)) rfl ?_;go_frame
   refine d4 18 (qZ 29 _ _ _ _ rfl rfl rfl rfl (TZ _ _)) ?_;refine (Bg (cap:=cap) RW.out HQ.out ix.out dT hN CB.out NX.out.i qG.out.1 qG.out.2 mU.out).mono ?_;rintro e1 ew ⟨rfl,kE,hb⟩;have wU:=ι (dy.congr kE fun k _=>uZ.out k);have K2:=ι (hb _ _ (by rw [hg.out]; exact Nat.le_refl _) K.out.size K.out);clear kE;refine ⟨_,rfl,?_⟩;go_frame;clear hb;refine i5 rfl ?_;go_frame;go_upto_region 5 with fail
   refine b6<|i8 (d9 (.int .i64 (((i+1):Nat):Int)) .add (h:=bI _ (by omega) (by omega)))<|i4 rfl ?_;go_frame
   go_wp2
   go_roundw
   case rel=>exact ⟨i+1,rfl,by go_num,eW.out,wU,K2⟩
   case measure=>simp [intOf]; have:=eW.out; omega

theorem T5 (args:Array Value) (w:World):(callFunc 28 args).run Tryz.prog w=.ok (.enter 28 args) w:=by kernel_rfl
theorem dy.T6 {w:World} {g:Nat} {f:Nat→Int} (h:dy w g n f) (hc:n≤cap) (hm:cap≤maxLen) (hn:n≤1000000):Rg.Ints w (.slice (some ⟨g,0,none⟩) n cap) ((List.range n).map f):=by
 refine Rg.Ints.mk (by simp) h.1 (by simpa using hc) hm (by simp; omega) fun i hi=>?_
 have nc:i<n:=by simpa using hi
 rw [Nat.zero_add,h.2.1 i nc];simp
def Kb (d:Int) (ll:List (List Int)) (l:List Int) (c:Int):Prop :=
 (Ma.bJ d ll≠0∧c=Ma.bJ d ll∧l=[]) ∨
  (Ma.bJ d ll=0∧∃ (N:Nat) (gs:List (List Nat)) (O:List (List Nat)) (R:List (List (List Nat))),d=((N:Nat):Int)∧ll=gs.map Ma.ah∧1≤N∧(∀ s∈gs,Gd N s)∧ar N (Cm.Gr N (·∈gs)) O R ∧
   ((5040<bQ O N N∧c=5∧l=[]) ∨
   (bQ O N N≤5040∧c=0∧∃ (st:cF) (wl:List Int),iO (ak gs) N st∧st.2[st.2.length - 1]?=some wl∧l=(List.range (wl.length+1)).map (gT st st.1))))
def IM (d:Int) (ll:List (List Int)) (w:World) (ed:Ending) (w':World):Prop:=∃ v l c,ed=.returned (.tuple #[v,.int .i64 c])∧Kb d ll l c∧Rg.Ints w' v l∧Below w.heap.size w w'
theorem yV (gv:Value) (d:Int) (ll:List (List Int)) (w:World) (h:Rg.Rows w gv ll) (hd:d≤12∨64<d) :
  Calls Tryz.prog 8 #[.agg #[.int .i64 d,gv]] w (IM d ll w):=by
 obtain ⟨ga,gc,rfl,dS,eF⟩:=GI.enter (d) h;have K:=ι eF;have G0:=ι dS;clear h dS eF
 go_enter Tryz.func8,Tryz.ntmps8
 go_upto_region 0 with fail
 refine b6<|i8 (Rg.ba _ _ rfl rfl)<|i5 rfl<|i4 rfl ?_;go_frame
 obtain ⟨gb,fR⟩:∃ gb,w.heap.size=gb:=⟨_,rfl⟩;rw [fR] at G0 ⊢;generalize w.alloc (.cells #[.int .i64 d,.slice ga ll.length gc] 24)=w0 at *;clear fR;go_upto_region 1 with fail
 refine b6<|i8 (d8 (.agg #[.int .i64 d,.slice ga ll.length gc]) ⟨gb,0,none⟩ (aT G0.out.c0 G0.out.c1)) ?_;go_frame
 refine d4 10 (aq 17 _ _ rfl rfl (GH _ _)) ?_;refine (po _ d ll w0 G0.out.rows hd).mono ?_;rintro e1 w1 ⟨fa,fn,fc,mo,c,rfl,DS,hb⟩;have SR:=ι DS;clear DS;refine ⟨_,rfl,?_⟩;go_frame;replace G0:=ι (G0.out.below hb);replace K:=ι (Rg.acc K.out hb);clear hb
 refine i3 (.tuple #[.slice fa fn fc,(.map mo),.int .i64 c]) rfl<|i8 (f8 (.slice fa fn fc))<|i8 (f8 ((.map mo)))<|i8 (f8 (.int .i64 c))<|i8 (p8 rfl) ?_;go_frame
 refine i5 rfl<|Rg.aF none rfl rfl (Rg.az _ _ _ rfl _ rfl _ rfl (sI _ (by rw [Rg.aM]; rfl) (dv _ _ _ 0 _))) ?_;go_frame
 have bG:=NB w1 mo 43;have TK:=ι bG.2;have hb:=bG.2;generalize (w1.alloc (.cells #[.map none] 43)).setCell ⟨w1.heap.size,0,none⟩ (.map mo)=w2 at *;replace G0:=ι (G0.out.below hb);replace K:=ι (Rg.acc K.out hb);clear hb;have CB:=ι bG.1;clear bG;refine i4 rfl ?_;go_frame
 rcases SR.out with ⟨h1,rfl,-⟩ | ⟨h1,N,gs,O,R,rfl,rfl,dT,dm,cD,bH,⟨h2,rfl,-⟩ | ⟨h2,rfl,mb,vs,st,rfl,kh,js,hl,nX,yG⟩⟩
 ·skip
  go_upto_region 2 with fail
  refine b6<|i4 rfl<|i8 (d9 (.bool true) .neq (h:=ax _ (decide_eq_true h1))) ?_;go_frame
  go_upto_region 3 with fail
  refine b6<|i4 rfl<|i5 rfl<|i4 rfl ?_;go_frame
  go_wp2
  go_ret2
  exact ⟨_,[],_,rfl,.inl ⟨h1,rfl,rfl⟩,dQ _,K.out⟩
 ·skip
  go_upto_region 2 with fail
  refine b6<|i4 rfl<|i8 (d9 (.bool true) .neq (h:=ax _ (decide_eq_true (by decide)))) ?_;go_frame
  go_upto_region 3 with fail
  refine b6<|i4 rfl<|i5 rfl<|i4 rfl ?_;go_frame
  go_wp2
  go_ret2
  exact ⟨_,[],_,rfl,.inr ⟨h1,N,gs,O,R,rfl,rfl,dT,cD,bH,.inl ⟨h2,rfl,rfl⟩⟩,dQ _,K.out⟩
 ·skip
  go_upto_region 2 with fail
  refine b6<|i4 rfl<|i8 (d9 (.bool false) .neq (h:=ax _ (decide_eq_false (by decide)))) ?_;go_frame
  have sK:=ι kh;have ix:=ι js;have nH:=ι (yG.below TK.out);obtain ⟨xl,qC⟩:∃ x,Hid (st.1[st.1.length - 1]?=some x):=⟨_,ι (List.getElem?_eq_getElem (by omega))⟩;obtain ⟨wl,DY⟩:∃ x,Hid (st.2[st.1.length - 1]?=some x):=⟨_,ι (List.getElem?_eq_getElem (by rw [ix.out.ln]; omega))⟩;obtain ⟨wv,qX⟩:∃ x,Hid (vs[st.1.length - 1]?=some x):=⟨_,ι (List.getElem?_eq_getElem (by rw [nH.out.vl]; omega))⟩;obtain ⟨J1,wb,wo,wc,A8⟩:=nH.out.word qX.out DY.out;subst A8;have vg:=ι (show wl.length≤5040 from Nat.le_trans (ix.out.wl wl (List.mem_of_getElem? DY.out)) hl);have Xu:=ι (nH.out.els.mono (F':=fun k=>k<w2.heap.size) (fun k g=>g.1));obtain ⟨fb,fo,Z_,uv,e1,mL,DP⟩:=nH.out.at (by omega) (i:=st.1.length - 1) (by omega) qC.out
  have rZ:=ι (show Rg.Rows w2 (.slice fa fn fc) (st.1.map Ma.ah) by
   obtain ⟨us,q1,q2⟩:=nH.out.row
   exact Rg.Rows.cm q1 (by omega) q2.1 (fun i a b=>(q2.2 i a b).ints))
  simp only [Value.slice.injEq] at e1;obtain ⟨rfl,rfl,rfl⟩:=e1;have CU:=ι mL;have EU:=ι DP
  have DW:N≤12:=by obtain ⟨D9,_,e9,_,_,_,s5,_⟩:=iz h1; omega
  have yN:=ι (mX ix.out.nd (fun y hy=>jB (ix.out.gd y hy) (by obtain ⟨D9,_,e9,_,_,_,s5,_⟩:=iz h1; omega)) qC.out qX.out);have GX:=ι (ix.out.gd xl (List.mem_of_getElem? qC.out));have HQ:=ι (show xK w2.heap.size w2 mb st vs from ⟨nH.out.map,Xu.out⟩)
  have HLA:=ι (show ∀ x∈st.1,x∈st.1∧(bj st x).length<wl.length+1 from fun x hx=>⟨hx,by
   have q1:st.1.idxOf x<st.1.length:=List.idxOf_lt_length_of_mem hx
   have q2:st.1.idxOf x<st.2.length:=by rw [ix.out.ln]; exact q1
   have q3:bj st x∈st.2:=by
    unfold bj;rw [List.getD_eq_getElem?_getD,List.getElem?_eq_getElem q2];exact List.getElem_mem q2
   have:=sK.out.last cD (w:=wl) (by rw [ix.out.ln]; exact DY.out) _ q3
   omega⟩)
  clear mL DP J1 kh js yG SR Xu nH;have N2:=ι (lI.mk rZ.out);clear rZ;go_upto_region 4 with fail;have aw:Below w2.heap.size w2 w2.drew:=(Below.refl _ _).drew;replace CB:=ι (CB.out.below aw);replace CU:=ι (CU.out.below aw);replace EU:=ι (EU.out.below aw);replace HQ:=ι (HQ.out.below aw);replace N2:=ι (N2.out.below aw);replace K:=ι (Rg.acc K.out aw);clear aw;refine Rg.Any.begin (S:=Rg.aH 9 (fun _=>True) (fun W=>Below w2.drew.heap.size w2.drew W)) mix ?_;generalize w2.drew=w3 at *;have hS:∀ (l:Array Bool) W,Below w3.heap.size w3 W→Rg.aH 9 (fun _=>True) (fun W=>Below w3.heap.size w3 W) l W:=fun l W h=>⟨.inr trivial,h⟩;have hI:Below w3.heap.size w3 w3:=Below.refl _ _
  refine c7 0 9 ((.map (some mb))) 17 rfl rfl (g6 ⟨w1.heap.size,0,none⟩ (fun W hW=>pn ((Below.cell (p:=⟨w1.heap.size,0,none⟩) hW CB.out.lt).trans CB.out.cell))) (hS _ _ hI)<|c8 1 9 (.slice (some ⟨fb,fo,none⟩) st.1.length fc) 18 (hS _ _ hI)<|c8 2 9 (.slice (some ⟨fb,fo,none⟩) st.1.length fc) 19 (hS _ _ hI)<|c7 3 9 (.int .i64 ((st.1.length:Nat):Int)) 20 rfl rfl (g7 fun w=>cZ _ _ _ rfl Tryz.underlying22 _ _ _ rfl) (hS _ _ hI)<|c7 4 9 (.int .i64 (((st.1.length - 1):Nat):Int)) 21 rfl rfl (g7 fun w=>cC (R:=.int .i64 (((st.1.length - 1):Nat):Int)) .sub _ _ _ rfl rfl rfl (kP _ (by omega) (by omega))) (hS _ _ hI) ?_;go_frame
  refine c7 5 9 (.pointer (some ⟨fb,fo+(st.1.length - 1),none⟩)) 22 rfl rfl (Rg.ai aE _ _ rfl rfl fb (fo) (st.1.length) fc ((st.1.length - 1)) rfl rfl (by omega)) (hS _ _ hI)<|c7 6 9 (uv) 23 rfl rfl (g6 ⟨fb,fo+(st.1.length - 1),none⟩ (fun W hW=>Rg.ae _ _ Tryz.underlying26 ((Below.cell (p:=⟨fb,fo+(st.1.length - 1),none⟩) hW CU.out.lt).trans CU.out.cell))) (hS _ _ hI) ?_;go_frame
  refine Rg.Any.one (i:=7) (by kernel_rfl) (Rg.Any.ask (some 24) rfl rfl rfl _ _ (aq 22 _ _ rfl rfl (mi _ _)) ?_);refine (iB EU.out.np (by rw [GX.out.2]; exact dT) (by rw [GX.out.2]; omega) (jB GX.out (by omega))).mono ?_;rintro e1 w4 ⟨rfl,hb⟩;have cB:=Rg.acc hI hb;clear hb hI;refine ⟨_,rfl,(hS _ _ cB),?_⟩;go_frame;have eA:=Sm.jE iC (HQ.out.below cB).map (dz xl);rw [yN.out,Option.getD_some] at eA
  refine g5 8 25 rfl rfl (Rg.eP _ _ _ _ rfl _ _ rfl rfl eA) (hS _ _ cB)<|g5 9 7 rfl rfl (b5 (.slice (some ⟨wb,wo,none⟩) wl.length wc) _ rfl rfl) (hS _ _ cB) ?_;go_frame
  refine Rg.Any.done (by kernel_rfl) ?_ _;replace CB:=ι (CB.out.below cB);replace CU:=ι (CU.out.below cB);replace EU:=ι (EU.out.below cB);replace HQ:=ι (HQ.out.below cB);replace N2:=ι (N2.out.below cB);replace K:=ι (Rg.acc K.out cB);clear hS cB;have kE:=qM w4 (wl.length+1);have yL:Below w4.heap.size w4 (w4.alloc (.cells (madeCells #[.int .i64 0] (wl.length+1)) 3)):=(Below.refl _ _).alloc (Nat.le_refl _) _;have HWW:=vg.out;go_upto_region 5 with fail
  refine b6<|i5 rfl<|i5 rfl<|i8 (e8 Tryz.underlying35)<|i8 (d9 (.int .i64 (((wl.length+1):Nat):Int)) .add (h:=bI _ (by omega) (by omega))) ?_;go_frame
  refine i8 (fQ _ _ _ rfl _ _ rfl rfl (AY (wl.length+1) (by omega) w4))<|i8 (kU 29 _ rfl rfl) ?_;go_frame
  refine d4 32 (dN 28 _ _ _ _ rfl rfl rfl rfl (T5 _ _)) ?_;refine (G8 (cap:=wl.length+1) N2.out.r HLA.out hl HQ.out ix.out dT (by omega) CB.out yL kE).mono ?_;rintro e1 w5 ⟨rfl,hrg,hb⟩;have KB:=ι hb;refine ⟨_,rfl,?_⟩;go_frame;clear hb
  refine i5 rfl<|i4 rfl ?_;go_frame
  have kX:wl.length+1≤maxLen:=by unfold maxLen; omega
  have aB:=dy.T6 hrg (Nat.le_refl _) kX (by omega);have K9:=ι (Rg.acc K.out KB.out);go_wp2
  go_ret2
  exact ⟨_,_,0,rfl,.inr ⟨h1,N,gs,O,R,rfl,rfl,dT,cD,bH,.inr ⟨h2,rfl,st,wl,sK.out,by rw [ix.out.ln]; exact DY.out,rfl⟩⟩,aB,K9.out⟩
end Go.Proofs.YtbngdgfmlmkgiaaGreat

namespace Go.Proofs.YtbngdgfmlmkgiaaGreat
open Go.RowKit
open Go.Proofs
open Go.Proofs.Ob
open Go.Proofs.Cm (Gd Gr ar ap)
def rk (x:Int):Nat:=if x<0 then 2*(-x - 1).toNat+1 else 2*(x - 1).toNat
def Lx:List Int→List Int→Prop
 | a :: u,b :: v=>rk a<rk b∨(a=b∧Lx u v)
 | _,_=>False
def SL (u v:List Int):Prop:=u.length<v.length∨(u.length=v.length∧Lx u v)
def uf (u v:List Int):Prop:=u=v∨SL u v
theorem Lx.trans:∀ {u v w:List Int},Lx u v→Lx v w→Lx u w
 | [],_,_,h,_=>h.elim
 | _ :: _,[],_,h,_=>h.elim
 | _ :: _,_ :: _,[],_,h=>h.elim
 | a :: u,b :: v,c :: w,h,h'=>by
  rcases h with h | ⟨rfl,h⟩ <;> rcases h' with h' | ⟨rfl,h'⟩
  ·exact .inl (Nat.lt_trans h h')
  ·exact .inl h
  ·exact .inl h'
  ·exact .inr ⟨rfl,Lx.trans h h'⟩
theorem Lx.app:∀ {u v:List Int} (s t:List Int),Lx u v→Lx (u++s) (v++t)
 | [],_,_,_,h=>h.elim
 | _ :: _,[],_,_,h=>h.elim
 | a :: u,b :: v,s,t,h=>by
  rcases h with h | ⟨rfl,h⟩
  ·exact .inl h
  ·exact .inr ⟨rfl,Lx.app s t h⟩
theorem Lx.pre {u v:List Int} (h:Lx u v):∀ p:List Int,Lx (p++u) (p++v)
 | []=>h
 | a :: p=>.inr ⟨rfl,Lx.pre h p⟩
theorem SL.trans {u v w:List Int} (h:SL u v) (h':SL v w):SL u w:=by
 rcases h with h | ⟨h,g⟩ <;> rcases h' with h' | ⟨h',g'⟩
 ·exact .inl (by omega)
 ·exact .inl (by omega)
 ·exact .inl (by omega)
 ·exact .inr ⟨by omega,g.trans g'⟩
theorem SL.snoc {u v:List Int} (a b:Int) (h:SL u v):SL (u++[a]) (v++[b]):=by
 rcases h with h | ⟨h,g⟩
 ·exact .inl (by simp; omega)
 ·exact .inr ⟨by simp; omega,g.app _ _⟩
theorem SL.app {u v:List Int} (s:List Int) (h:SL u v):SL (u++s) (v++s):=by
 rcases h with h | ⟨h,g⟩
 ·exact .inl (by simp; omega)
 ·exact .inr ⟨by simp; omega,g.app _ _⟩
theorem SL.pre {u v:List Int} (p:List Int) (h:SL u v):SL (p++u) (p++v):=by
 rcases h with h | ⟨h,g⟩
 ·exact .inl (by simp; omega)
 ·exact .inr ⟨by simp; omega,g.pre p⟩
theorem SL.last {a b:Int} (p:List Int) (h:rk a<rk b):SL (p++[a]) (p++[b]):=.inr ⟨by simp,Lx.pre (show Lx [a] [b] from Or.inl h) p⟩
theorem uf.len {u v:List Int} (h:uf u v):u.length≤v.length:=by
 rcases h with rfl | h | h
 ·exact Nat.le_refl _
 ·omega
 ·omega
theorem uf.trans {u v w:List Int} (h:uf u v) (h':uf v w):uf u w:=by
 rcases h with rfl | h
 ·exact h'
 ·rcases h' with rfl | h'
  ·exact .inr h
  ·exact .inr (h.trans h')
theorem uf.app {u v:List Int} (s:List Int) (h:uf u v):uf (u++s) (v++s):=by
 rcases h with rfl | h
 ·exact .inl rfl
 ·exact .inr (h.app s)
theorem N3 (n:Nat):(lets n).Pairwise (fun a b=>rk a<rk b)∧∀ a∈lets n,rk a<2*n:=by
 induction n with
 | zero=>exact ⟨List.Pairwise.nil,fun a h=>by simp [lets] at h⟩
 | succ n ih =>
  have e1:rk ((n:Int)+1)=2*n:=by unfold rk; rw [if_neg (by omega)]; omega
  have e2:rk (-(n:Int) - 1)=2*n+1:=by unfold rk; rw [if_pos (by omega)]; omega
  rw [lq];refine ⟨List.pairwise_append.2 ⟨ih.1,?_,fun a ha b hb=>?_⟩,fun a ha=>?_⟩
  ·refine List.Pairwise.cons (fun b hb=>?_) (List.pairwise_singleton _ _)
   rw [List.mem_singleton] at hb; subst hb; omega
  ·have:=ih.2 a ha
   simp only [List.mem_cons,List.not_mem_nil,or_false] at hb
   rcases hb with rfl | rfl <;> omega
  ·rcases List.mem_append.1 ha with ha | ha
   ·have:=ih.2 a ha; omega
   ·simp only [List.mem_cons,List.not_mem_nil,or_false] at ha
    rcases ha with rfl | rfl <;> omega
theorem DZ (gs:List (List Nat)) (s:List Nat):ak (gs++[s])=ak gs++[(s,(gs.length:Int)+1),(Ma.aO s,-(gs.length:Int) - 1)]:=by
 unfold ak;rw [uI,List.length_append,List.length_singleton,lq,List.zip_append (by rw [fM,fT])];rfl
theorem xS (gs:List (List Nat)):(ak gs).map (·.2)=lets gs.length:=by
 unfold ak;rw [List.map_snd_zip];rw [fM,fT]; exact Nat.le_refl _
theorem Kc (gs:List (List Nat)):(ak gs).Pairwise fun a b=>rk a.2<rk b.2:=by
 have:=(N3 gs.length).1;rw [← xS,List.pairwise_map] at this;exact this
theorem nO:∀ (n:Nat) (gs:List (List Nat)),gs.length=n→∀ y,y∈ak gs↔∃ (i:Nat) (s:List Nat),gs[i]?=some s∧(y=(s,(i:Int)+1)∨y=(Ma.aO s,-(i:Int) - 1))
 | 0,gs,hl,y=>by
  obtain rfl:=List.length_eq_zero_iff.1 hl;exact ⟨fun h=>by simp [ak,gg,lets] at h,fun ⟨i,s,h,_⟩=>by simp at h⟩
 | n+1,gs,hl,y=>by
  have hne:gs≠[]:=fun e=>by rw [e] at hl; simp at hl
  obtain ⟨l,s,rfl⟩:∃ l s,gs=l++[s]:=⟨gs.dropLast,gs.getLast hne,(List.dropLast_concat_getLast hne).symm⟩
  have hl:l.length=n:=by simpa using hl
  rw [DZ,List.mem_append,nO n l hl y]
  constructor
  ·rintro (⟨i,t,h1,h2⟩ | h)
   ·have:=(List.getElem?_eq_some_iff.1 h1).1
    exact ⟨i,t,by rw [List.getElem?_append_left this]; exact h1,h2⟩
   ·refine ⟨l.length,s,by simp,?_⟩
    simpa using h
  ·rintro ⟨i,t,h1,h2⟩
   by_cases hi:i<l.length
   ·rw [List.getElem?_append_left hi] at h1
    exact .inl ⟨i,t,h1,h2⟩
   ·have h3:=(List.getElem?_eq_some_iff.1 h1).1
    simp only [List.length_append,List.length_singleton] at h3
    obtain rfl:i=l.length:=by omega
    rw [List.getElem?_concat_length] at h1;obtain rfl:=Option.some.inj h1;refine .inr ?_
    simpa using h2
theorem ug {y:List Nat × Int} (h:y∈ak gs):y.2≠0∧y.2≤(gs.length:Int)∧-(gs.length:Int)≤y.2∧j5 gs y.2=y.1:=by
 obtain ⟨i,s,h1,h2⟩:=(nO _ gs rfl y).1 h;obtain ⟨hi,rfl⟩:=List.getElem?_eq_some_iff.1 h1
 rcases h2 with rfl | rfl
 ·exact ⟨by show (i:Int)+1≠0; omega,by show (i:Int)+1≤_; omega,by show _≤(i:Int)+1; omega,pg hi⟩
 ·exact ⟨by show -(i:Int) - 1≠0; omega,by show -(i:Int) - 1≤_; omega,by show _≤-(i:Int) - 1; omega,o_ hi⟩
def Zp (st:cF):List (List Nat × List Int):=st.1.zip st.2
theorem Zp.step {x:List Nat} {wd:List Int} {st:cF} (hl:st.2.length=st.1.length) (y:List Nat × Int):(bm x wd st y).2.length=(bm x wd st y).1.length∧((Ma.aj x y.1∈st.1∧bm x wd st y=st)∨(Ma.aj x y.1∉st.1∧Zp (bm x wd st y)=Zp st++[(Ma.aj x y.1,wd++[y.2])])):=by
 unfold bm
 split
 ·rename_i h; exact ⟨hl,.inl ⟨h,rfl⟩⟩
 ·rename_i h
  refine ⟨by simp [hl],.inr ⟨h,?_⟩⟩;unfold Zp;rw [List.zip_append hl.symm]; rfl
theorem Zp.mem {st:cF} (hl:st.2.length=st.1.length) {x:List Nat} (h:x∈st.1):∃ u,(x,u)∈Zp st:=by
 obtain ⟨i,hi,rfl⟩:=List.getElem_of_mem h;refine ⟨st.2[i]'(by omega),?_⟩;unfold Zp;rw [List.mem_iff_getElem];exact ⟨i,by simp; omega,by simp⟩
def WI (N:Nat) (gs:List (List Nat)) (st:cF):Prop:=∀ q∈Zp st,okW gs.length q.2∧vp N gs q.2=q.1
def D1 (st:cF):Prop:=(Zp st).Pairwise fun a b=>SL a.2 b.2
theorem N4 (N:Nat) (gs:List (List Nat)) (u:List Int) (a:Int):vp N gs (u++[a])=Ma.aj (vp N gs u) (j5 gs a):=by
 unfold vp; rw [List.foldl_append]; rfl
theorem okW.app {u v:List Int} (h:okW n u) (h':okW n v):okW n (u++v):=fun x hx=>(List.mem_append.1 hx).elim (h x) (h' x)
theorem okW.one {a:Int} (h:a≠0∧a≤(n:Int)∧-(n:Int)≤a):okW n [a]:=fun x hx=>by rw [List.mem_singleton] at hx; rw [hx]; exact h
theorem xT {N:Nat} {gs:List (List Nat)} {x:List Nat} {wd:List Int} (ho:okW gs.length wd) (he:vp N gs wd=x) :
  ∀ (l:List (List Nat × Int)) (st:cF),(∀ y∈l,y∈ak gs)→l.Pairwise (fun a b=>rk a.2<rk b.2)→st.2.length=st.1.length→WI N gs st→D1 st→(∀ q∈Zp st,∀ y∈l,SL q.2 (wd++[y.2])) →
   (l.foldl (bm x wd) st).2.length=(l.foldl (bm x wd) st).1.length∧WI N gs (l.foldl (bm x wd) st)∧D1 (l.foldl (bm x wd) st)∧(∀ q∈Zp st,q∈Zp (l.foldl (bm x wd) st)) ∧
   (∀ q∈Zp (l.foldl (bm x wd) st),q∈Zp st∨∃ b,q.2=wd++[b])∧(∀ y∈l,∃ u,(Ma.aj x y.1,u)∈Zp (l.foldl (bm x wd) st)∧uf u (wd++[y.2]))
 | [],st,_,_,hl,h1,h2,_=>⟨hl,h1,h2,fun _=>id,fun _ h=>.inl h,fun _ h=>absurd h (List.not_mem_nil)⟩
 | y :: l,st,hy,hp,hl,h1,h2,h3=>by
  obtain ⟨L_,yp⟩:=List.pairwise_cons.1 hp;have PT:=ug (hy y (List.mem_cons_self ..));obtain ⟨hl',hs⟩:=Zp.step (x:=x) (wd:=wd) hl y
  have key:WI N gs (bm x wd st y)∧D1 (bm x wd st y)∧(∀ q∈Zp (bm x wd st y),∀ z∈l,SL q.2 (wd++[z.2]))∧(∀ q∈Zp st,q∈Zp (bm x wd st y))∧(∀ q∈Zp (bm x wd st y),q∈Zp st∨∃ b,q.2=wd++[b])∧∃ u,(Ma.aj x y.1,u)∈Zp (bm x wd st y)∧uf u (wd++[y.2]):=by
   rcases hs with ⟨hm,e⟩ | ⟨hm,e⟩
   ·rw [e]
    obtain ⟨u,hu⟩:=Zp.mem hl hm;exact ⟨h1,h2,fun q hq z hz=>h3 q hq z (List.mem_cons_of_mem _ hz),fun _=>id,fun _ h=>.inl h,u,hu,.inr (h3 _ hu y (List.mem_cons_self ..))⟩
   ·unfold WI D1
    rw [e];refine ⟨fun q hq=>?_,List.pairwise_append.2 ⟨h2,List.pairwise_singleton _ _,fun a ha b hb=>?_⟩,fun q hq z hz=>?_,fun q hq=>List.mem_append_left _ hq,fun q hq=>?_,wd++[y.2],List.mem_append_right _ (List.mem_singleton.2 rfl),.inl rfl⟩
    ·rcases List.mem_append.1 hq with hq | hq
     ·exact h1 q hq
     ·rw [List.mem_singleton] at hq; subst hq
      refine ⟨ho.app (okW.one ⟨PT.1,PT.2.1,PT.2.2.1⟩),?_⟩;show vp N gs (wd++[y.2])=_;rw [N4,he,PT.2.2.2]
    ·rw [List.mem_singleton] at hb; subst hb
     exact h3 a ha y (List.mem_cons_self ..)
    ·rcases List.mem_append.1 hq with hq | hq
     ·exact h3 q hq z (List.mem_cons_of_mem _ hz)
     ·rw [List.mem_singleton] at hq; subst hq
      exact SL.last _ (L_ z hz)
    ·rcases List.mem_append.1 hq with hq | hq
     ·exact .inl hq
     ·rw [List.mem_singleton] at hq; subst hq
      exact .inr ⟨_,rfl⟩
  obtain ⟨k1,k2,k3,k4,k5,u,k6,k7⟩:=key;obtain ⟨r0,r1,r2,r3,r4,r5⟩:=xT ho he l (bm x wd st y) (fun z hz=>hy z (List.mem_cons_of_mem _ hz)) yp hl' k1 k2 k3;refine ⟨r0,r1,r2,fun q hq=>r3 q (k4 q hq),fun q hq=>?_,fun z hz=>?_⟩
  ·rcases r4 q hq with h | h
   ·exact k5 q h
   ·exact .inr h
  ·rcases List.mem_cons.1 hz with rfl | hz
   ·exact ⟨u,r3 _ k6,k7⟩
   ·exact r5 z hz
theorem xU {N:Nat} {gs:List (List Nat)} (hg:∀ s∈gs,Gd N s):∀ i:Nat,
  WI N gs (aI (ak gs) N i)∧D1 (aI (ak gs) N i)∧(∀ p,(Zp (aI (ak gs) N i))[i]?=some p→∀ q∈Zp (aI (ak gs) N i),∀ a,SL q.2 (p.2++[a])) ∧
  (∀ j p,j<i→(Zp (aI (ak gs) N i))[j]?=some p→∀ y∈ak gs,∃ u,(Ma.aj p.1 y.1,u)∈Zp (aI (ak gs) N i)∧uf u (p.2++[y.2]))
 | 0=>⟨fun q hq=>by
   have hq:q∈[(Ma.aR N,([]:List Int))]:=hq;rw [List.mem_singleton] at hq; subst hq
   exact ⟨fun x hx=>absurd hx (List.not_mem_nil),rfl⟩,List.pairwise_singleton _ _,fun p hp q hq a=>by
   have hq:q∈[(Ma.aR N,([]:List Int))]:=hq;rw [List.mem_singleton] at hq; subst hq
   exact .inl (by simp),fun j p h=>absurd h (Nat.not_lt_zero _)⟩
 | i+1=>by
  obtain ⟨h1,h2,h3,h4⟩:=xU hg i;have hb:=gA (N:=N) (du hg) i
  by_cases h:i<(aI (ak gs) N i).1.length
  ·have e3:aI (ak gs) N (i+1)=dC (ak gs) (aI (ak gs) N i) i:=by
    show (if i<(aI (ak gs) N i).1.length then dC (ak gs) (aI (ak gs) N i) i else aI (ak gs) N i)=_;rw [if_pos h]
   have h':i<(aI (ak gs) N i).2.length:=by rw [hb.ln]; exact h
   obtain ⟨p,hp⟩:∃ p,(Zp (aI (ak gs) N i))[i]?=some p:=⟨((aI (ak gs) N i).1[i],(aI (ak gs) N i).2[i]),by unfold Zp; rw [List.getElem?_zip_eq_some]; exact ⟨List.getElem?_eq_getElem h,List.getElem?_eq_getElem h'⟩⟩;have RK:p∈Zp (aI (ak gs) N i):=List.mem_of_getElem? hp;have yp:=List.getElem?_zip_eq_some.1 hp;obtain ⟨ho,he⟩:=h1 p RK
   have e1:(aI (ak gs) N i).1.getD i []=p.1:=by rw [List.getD_eq_getElem?_getD,yp.1]; rfl
   have e2:(aI (ak gs) N i).2.getD i []=p.2:=by rw [List.getD_eq_getElem?_getD,yp.2]; rfl
   obtain ⟨r0,r1,r2,r3,r4,r5⟩:=xT (x:=p.1) ho he (ak gs) _ (fun _=>id) (Kc gs) hb.ln h1 h2 fun q hq y _=>h3 p hp q hq y.2
   have ext:Zp (aI (ak gs) N i) <+: Zp (aI (ak gs) N (i+1)):=by
    obtain ⟨⟨s,hs⟩,⟨t,ht⟩⟩:=fU (ak gs) N i;unfold Zp;rw [← hs,← ht,List.zip_append hb.ln.symm];exact ⟨_,rfl⟩
   have hI:i<(Zp (aI (ak gs) N i)).length:=(List.getElem?_eq_some_iff.1 hp).1
   have By:∀ j q,j≤i→(Zp (aI (ak gs) N (i+1)))[j]?=some q→(Zp (aI (ak gs) N i))[j]?=some q:=fun j q hj hq=>by
    obtain ⟨t,ht⟩:=ext;rw [← ht,List.getElem?_append_left (by omega)] at hq;exact hq
   have e4:dC (ak gs) (aI (ak gs) N i) i=(ak gs).foldl (bm p.1 p.2) (aI (ak gs) N i):=by unfold dC; rw [e1,e2]
   rw [← e4,← e3] at r0 r1 r2 r3 r4 r5;refine ⟨r1,r2,fun p' rE q hq a=>?_,fun j q hj hq y hy=>?_⟩
   ·have aJ:SL p.2 p'.2:=by
     have sZ:=(List.getElem?_eq_some_iff.1 rE).1;have:=List.pairwise_iff_getElem.1 r2 i (i+1) (by omega) sZ (by omega);rw [(List.getElem?_eq_some_iff.1 rE).2] at this
     have e5:(Zp (aI (ak gs) N (i+1)))[i]'(by omega)=p:=by
      have e6:=By i _ (Nat.le_refl _) (List.getElem?_eq_getElem (by omega:i<(Zp (aI (ak gs) N (i+1))).length));rw [hp] at e6;exact (Option.some.inj e6).symm
     rw [e5] at this;exact this
    rcases r4 q hq with hq | ⟨b,hq⟩
    ·exact (h3 p hp q hq a).trans (aJ.snoc a a)
    ·rw [hq]; exact aJ.snoc b a
   ·have gV:=By j q (by omega) hq
    by_cases ej:j=i
    ·subst ej
     rw [hp] at gV;obtain rfl:=Option.some.inj gV;exact r5 y hy
    ·obtain ⟨u,hu,hle⟩:=h4 j q (by omega) gV y hy
     exact ⟨u,r3 _ hu,hle⟩
  ·have e3:aI (ak gs) N (i+1)=aI (ak gs) N i:=by
    show (if i<(aI (ak gs) N i).1.length then dC (ak gs) (aI (ak gs) N i) i else aI (ak gs) N i)=_;rw [if_neg h]
   have hz:(Zp (aI (ak gs) N i)).length≤i:=by unfold Zp; simp; omega
   rw [e3];refine ⟨h1,h2,fun p hp=>?_,fun j p hj hp=>?_⟩
   ·have:=(List.getElem?_eq_some_iff.1 hp).1; omega
   ·have:=(List.getElem?_eq_some_iff.1 hp).1
    exact h4 j p (by omega) hp
structure T7 (N:Nat) (gs:List (List Nat)) (st:cF):Prop where
 gd:∀ s∈gs,Gd N s
 bi:BI N st
 inn:∀ x∈st.1,okW gs.length (bj st x)∧vp N gs (bj st x)=x
 one:Ma.aR N∈st.1∧bj st (Ma.aR N)=[]
 next:∀ x∈st.1,∀ y∈ak gs,Ma.aj x y.1∈st.1∧uf (bj st (Ma.aj x y.1)) (bj st x++[y.2])
theorem tq {st:cF} (hb:BI N st) {x:List Nat} {u:List Int} (h:(x,u)∈Zp st):x∈st.1∧bj st x=u:=by
 obtain ⟨i,hi⟩:=List.mem_iff_getElem?.1 h;obtain ⟨h1,h2⟩:=List.getElem?_zip_eq_some.1 hi;obtain ⟨sZ,rfl⟩:=List.getElem?_eq_some_iff.1 h1;refine ⟨List.getElem_mem _,?_⟩;unfold bj;rw [hb.nd.idxOf_getElem,List.getD_eq_getElem?_getD,h2]; rfl
theorem Bh {st:cF} (hb:BI N st) {x:List Nat} (h:x∈st.1):(x,bj st x)∈Zp st:=by
 obtain ⟨u,hu⟩:=Zp.mem hb.ln h;have:=(tq hb hu).2;rw [this]; exact hu
theorem iO.words (hg:∀ s∈gs,Gd N s) {st:cF} (h:iO (ak gs) N st):T7 N gs st:=by
 obtain ⟨i,rfl,hi⟩:=h;have hb:=gA (N:=N) (du hg) i;obtain ⟨h1,h2,-,h4⟩:=xU hg i;refine ⟨hg,hb,fun x hx=>h1 _ (Bh hb hx),?_,fun x hx y hy=>?_⟩
 ·refine tq hb ?_
  have:∀ j,(Ma.aR N,([]:List Int))∈Zp (aI (ak gs) N j):=fun j=>by
   induction j with
   | zero=>exact List.mem_singleton.2 rfl
   | succ j ih =>
    obtain ⟨⟨s,hs⟩,⟨t,ht⟩⟩:=fU (ak gs) N j;have hbj:=gA (N:=N) (du hg) j;unfold Zp at ih ⊢;rw [← hs,← ht,List.zip_append hbj.ln.symm];exact List.mem_append_left _ ih
  exact this i
 ·obtain ⟨j,hj⟩:=List.mem_iff_getElem?.1 (Bh hb hx)
  have C9:j<i:=by
   have:=(List.getElem?_eq_some_iff.1 (List.getElem?_zip_eq_some.1 hj).1).1;omega
  obtain ⟨u,hu,hle⟩:=h4 j _ C9 hj y hy;obtain ⟨q1,q2⟩:=tq hb hu;exact ⟨q1,by rw [q2]; exact hle⟩
theorem T7.step {st:cF} (h:T7 N gs st) {x:List Nat} (hx:x∈st.1) (hj:j<gs.length):Ma.aj x gs[j]∈st.1∧(bj st (Ma.aj x gs[j])).length≤(bj st x).length+1∧(bj st x).length≤(bj st (Ma.aj x gs[j])).length+1:=by
 have m1:(gs[j],(j:Int)+1)∈ak gs:=(nO _ gs rfl _).2 ⟨j,gs[j],List.getElem?_eq_getElem hj,.inl rfl⟩;have m2:(Ma.aO gs[j],-(j:Int) - 1)∈ak gs:=(nO _ gs rfl _).2 ⟨j,gs[j],List.getElem?_eq_getElem hj,.inr rfl⟩;obtain ⟨a1,a2⟩:=h.next x hx _ m1;obtain ⟨b1,b2⟩:=h.next _ a1 _ m2;have gx:=h.bi.gd x hx;have gj:=h.gd _ (List.getElem_mem hj)
 have e:Ma.aj (Ma.aj x gs[j]) (Ma.aO gs[j])=x:=by rw [Cm.mul_assoc gx gj,Cm.oI gj,Cm.mul_one gx]
 rw [e] at b2;have c1:=a2.len;have c2:=b2.len;simp at c1 c2;exact ⟨a1,c1,c2⟩
end Go.Proofs.YtbngdgfmlmkgiaaGreat

namespace Go.Proofs.YtbngdgfmlmkgiaaGreat
open Go.RowKit
open Go.Proofs
open Go.Proofs.Ob
open Go.Proofs.Cm (Gd Gr ar ap lexLt eI St)
def lu (q o:List Nat) (j:Nat):Nat:=o.countP fun y=>decide (ap q y<ap q (o.getD j 0))
def mY (q o:List Nat) (d m:Nat):Nat:=(List.range m).foldl (fun p j=>if lu q o j=d then j else p) 0
theorem nP (q o:List Nat) (d m:Nat):mY q o d (m+1)=if lu q o m=d then m else mY q o d m:=by
 unfold mY; rw [List.range_succ,List.foldl_append]; rfl
theorem xV (q o:List Nat) (d:Nat):∀ m,0<m→mY q o d m<m
 | 0,h=>absurd h (Nat.lt_irrefl 0)
 | m+1,_=>by
  rw [nP]
  split
  ·omega
  ·by_cases e:m=0
   ·subst e; exact Nat.zero_lt_one
   ·have:=xV q o d m (by omega); omega
structure ks (n:Nat) (q o:List Nat):Prop where
 gd:Gd n q
 nd:o.Nodup
 lt:∀ y∈o,y<n
theorem PU {l:List Nat} (h:l.Nodup) {i:Nat} (hi:i<l.length) (hj:j<l.length) (e:l[i]=l[j]):i=j:=by
 rcases Nat.lt_trichotomy i j with h1 | h1 | h1
 ·exact absurd e (List.pairwise_iff_getElem.1 h i j hi hj h1)
 ·exact h1
 ·exact absurd e.symm (List.pairwise_iff_getElem.1 h j i hj hi h1)
theorem ks.at {o:List Nat} (_:ks n q o) (hj:j<o.length):o.getD j 0=o[j]:=by rw [List.getD_eq_getElem?_getD,List.getElem?_eq_getElem hj]; rfl
theorem ks.inj {o:List Nat} (h:ks n q o) {i:Nat} (hi:i<o.length) (hj:j<o.length) (e:ap q (o.getD i 0)=ap q (o.getD j 0)):i=j:=by
 rw [h.at hi,h.at hj] at e;have e2:=Cm.ku h.gd (h.lt _ (List.getElem_mem hi)) (h.lt _ (List.getElem_mem hj)) e;exact PU h.nd hi hj e2
theorem xW {α:Type} {l:List α} {p q:α→Bool} (h:∀ x∈l,p x=true→q x=true) {a:α} (ha:a∈l) (h1:p a=false) (h2:q a=true):l.countP p<l.countP q:=by
 induction l with
 | nil=>simp at ha
 | cons x l ih =>
  rw [List.countP_cons,List.countP_cons]
  rcases List.mem_cons.1 ha with rfl | ha
  ·have:=List.countP_mono_left (l:=l) (p:=p) (q:=q) fun y hy=>h y (List.mem_cons_of_mem _ hy)
   rw [h1,h2]; simp; omega
  ·have:=ih (fun y hy=>h y (List.mem_cons_of_mem _ hy)) ha
   have h3:=h x (List.mem_cons_self ..)
   cases e1:p x <;> cases e2:q x <;> simp <;> first | omega | (rw [e1] at h3; have:=h3 rfl; rw [e2] at this; cases this)
theorem ks.mono {o:List Nat} (h:ks n q o) {i:Nat} (hi:i<o.length) (e:ap q (o.getD i 0)<ap q (o.getD j 0)):lu q o i<lu q o j:=by
 refine xW (a:=o[i]) (fun y _ hy=>?_) (List.getElem_mem hi) ?_ ?_
 ·have:=of_decide_eq_true hy; exact decide_eq_true (by omega)
 ·rw [h.at hi]; exact decide_eq_false (Nat.lt_irrefl _)
 ·rw [h.at hi] at e; exact decide_eq_true e
theorem ks.QL {o:List Nat} (h:ks n q o) {i:Nat} (hi:i<o.length) (hj:j<o.length) (e:lu q o i=lu q o j):i=j:=by
 rcases Nat.lt_trichotomy (ap q (o.getD i 0)) (ap q (o.getD j 0)) with h1 | h1 | h1
 ·have:=h.mono hi h1; omega
 ·exact h.inj hi hj h1
 ·have:=h.mono hj h1; omega
theorem ks.clt {o:List Nat} (h:ks n q o) {i:Nat} (hi:i<o.length):lu q o i<o.length:=by
 have h1:=xW (l:=o) (p:=fun y=>decide (ap q y<ap q (o.getD i 0))) (q:=fun _=>true) (fun _ _ _=>rfl) (List.getElem_mem hi) (by rw [h.at hi]; exact decide_eq_false (Nat.lt_irrefl _)) rfl
 have h2:o.countP (fun _=>true)=o.length:=by simp
 unfold lu; omega
theorem ks.ex {o:List Nat} (h:ks n q o) {d:Nat} (hd:d<o.length):∃ j,j<o.length∧lu q o j=d:=by
 by_cases hh:∃ j,j<o.length∧lu q o j=d
 ·exact hh
 ·exfalso
  have nd:(d :: (List.range o.length).map (lu q o)).Nodup:=by
   refine List.nodup_cons.2 ⟨fun hm=>?_,?_⟩
   ·obtain ⟨j,hj,e⟩:=List.mem_map.1 hm
    exact hh ⟨j,List.mem_range.1 hj,e⟩
   ·refine List.pairwise_iff_getElem.2 fun a b ha hb gJ e=>?_
    rw [List.getElem_map,List.getElem_map,List.getElem_range,List.getElem_range] at e;rw [List.length_map,List.length_range] at ha hb;have:=h.QL ha hb e;omega
  have:=fA nd (m:=List.range o.length) fun x hx=>by
   rcases List.mem_cons.1 hx with rfl | hx
   ·exact List.mem_range.2 hd
   ·obtain ⟨j,hj,rfl⟩:=List.mem_map.1 hx
    exact List.mem_range.2 (h.clt (List.mem_range.1 hj))
  simp at this;omega
theorem ks.pos {n:Nat} {q o:List Nat} (h:ks n q o) {d j:Nat} (hj:j<o.length) (e:lu q o j=d):∀ m,j<m→m≤o.length→mY q o d m=j
 | 0,h1,_=>absurd h1 (Nat.not_lt_zero _)
 | m+1,h1,h2=>by
  rw [nP]
  by_cases e2:j=m
  ·subst e2; rw [if_pos e]
  ·rw [if_neg (fun e3=>e2 (h.QL hj (by omega) (e.trans e3.symm)))]
   exact h.pos hj e m (by omega) (by omega)
variable {N:Nat} {H:List Nat→Prop} {O:List (List Nat)} {R:List (List (List Nat))}
theorem nQ (h:ar N H O R) {i:Nat} (hi:i<N) (hk:k<(O.getD i []).length):St H i ((R.getD i []).getD k [])∧ap ((R.getD i []).getD k []) i=(O.getD i []).getD k 0:=(h.rep i k hi hk).1
theorem pP (hH:eI N H) (h:ar N H O R) {i:Nat} (hi:i<N):i∈O.getD i [] :=
 (h.orb i i hi).2 ⟨Ma.aR N,⟨hH.one,fun j hj=>Cm.dY (by omega)⟩,Cm.dY hi⟩
theorem lx (hH:eI N H) (h:ar N H O R) {i:Nat} (hi:i<N) (gq:Gd N q):ks N q (O.getD i []) :=
 ⟨gq,(h.pQ i hi).imp fun {a b} gJ=>Nat.ne_of_lt gJ,fun y hy=>by
  obtain ⟨x,hx,rfl⟩:=(h.orb i y hi).1 hy
  exact Cm.eH (hH.gd x hx.1) hi⟩
def yX (O:List (List Nat)) (R:List (List (List Nat))) (i:Nat) (q:List Nat) (d:Nat):List Nat:=(R.getD i []).getD (mY q (O.getD i []) d (O.getD i []).length) []
def kH (N:Nat) (O:List (List Nat)) (R:List (List (List Nat))):Nat→Nat→List Nat→Nat→List Nat
 | 0,_,q,_=>q
 | m+1,i,q,k=>kH N O R m (i+1) (Ma.aj (yX O R i q (k / bQ O N m)) q) (k % bQ O N m)
theorem vH (hH:eI N H) (h:ar N H O R) {i:Nat} (hi:i<N) (q:List Nat) (d:Nat):St H i (yX O R i q d)∧ap (yX O R i q d) i=(O.getD i []).getD (mY q (O.getD i []) d (O.getD i []).length) 0 :=
 nQ h hi (xV _ _ _ _ (List.length_pos_of_mem (pP hH h hi)))
theorem sO (hH:eI N H) (h:ar N H O R):∀ (m i:Nat) (q:List Nat) (k:Nat),i+m=N→H q→H (kH N O R m i q k)∧∀ j,j<i→ap (kH N O R m i q k) j=ap q j
 | 0,i,q,k,_,hq=>⟨hq,fun _ _=>rfl⟩
 | m+1,i,q,k,e,hq=>by
  have hr:=(vH hH h (show i<N by omega) q (k / bQ O N m)).1;obtain ⟨h1,h2⟩:=sO hH h m (i+1) (Ma.aj (yX O R i q (k / bQ O N m)) q) (k % bQ O N m) (by omega) (hH.mul _ _ hr.1 hq);refine ⟨h1,fun j hj=>?_⟩;show ap (kH N O R m (i+1) _ _) j=_;rw [h2 j (by omega),Cm.bU (hH.gd _ hr.1) (by omega),hr.2 j hj]
theorem py (hH:eI N H) (h:ar N H O R):∀ m,m≤N→0<bQ O N m
 | 0,_=>Nat.zero_lt_one
 | m+1,hm=>Nat.mul_pos (List.length_pos_of_mem (pP hH h (by omega))) (py hH h m (by omega))
theorem N5 (hk:k<bQ O N (m+1)):k / bQ O N m<(O.getD (N - (m+1)) []).length:=by
 have h0:bQ O N (m+1)=(O.getD (N - (m+1)) []).length*bQ O N m:=rfl;rw [h0] at hk
 by_cases e:bQ O N m=0
 ·rw [e] at hk; omega
 ·exact Nat.div_lt_of_lt_mul (by rw [Nat.mul_comm]; exact hk)
theorem Bi (hH:eI N H) (h:ar N H O R) {i:Nat} (e:i+(m+1)=N) (hq:H q) (hk:k<bQ O N (m+1)):∃ j,j<(O.getD i []).length∧mY q (O.getD i []) (k / bQ O N m) (O.getD i []).length=j∧lu q (O.getD i []) j=k / bQ O N m∧ap (kH N O R (m+1) i q k) i=ap q ((O.getD i []).getD j 0):=by
 have hi:i<N:=by omega
 have ho:=lx hH h hi (hH.gd q hq);obtain ⟨j,hj,hc⟩:=ho.ex (d:=k / bQ O N m) (by have:=N5 (O:=O) (N:=N) hk; rwa [show N - (m+1)=i by omega] at this);have hp:=ho.pos hj hc _ hj (Nat.le_refl _);refine ⟨j,hj,hp,hc,?_⟩;obtain ⟨dA,iV⟩:=vH hH h hi q (k / bQ O N m);obtain ⟨_,h2⟩:=sO hH h m (i+1) (Ma.aj (yX O R i q (k / bQ O N m)) q) (k % bQ O N m) (by omega) (hH.mul _ _ dA.1 hq);show ap (kH N O R m (i+1) _ _) i=_;rw [h2 i (by omega),Cm.bU (hH.gd _ dA.1) hi,iV,hp]
theorem zO (hH:eI N H) (h:ar N H O R):∀ (m i:Nat) (q:List Nat) (k k':Nat),i+m=N→H q→k<k'→k' < bQ O N m→lexLt N (kH N O R m i q k) (kH N O R m i q k')
 | 0,i,q,k,k',_,_,h1,h2=>by have:k' < 1:=h2; omega
 | m+1,i,q,k,k',e,hq,h1,h2=>by
  obtain ⟨j,hj,hp,hc,ha⟩:=Bi hH h (m:=m) (i:=i) e hq (Nat.lt_trans h1 h2);obtain ⟨j',Xv,rE,OZ,ha'⟩:=Bi hH h (m:=m) (i:=i) e hq h2;have hs:=py hH h m (by omega)
  have hi:i<N:=by omega
  have ho:=lx hH h hi (hH.gd q hq)
  by_cases hd:k / bQ O N m=k' / bQ O N m
  ·have aJ:k % bQ O N m<k' % bQ O N m:=by
    have a1:=Nat.div_add_mod k (bQ O N m);have a2:=Nat.div_add_mod k' (bQ O N m);rw [hd] at a1;omega
   have hr:=(vH hH h hi q (k / bQ O N m)).1;have:=zO hH h m (i+1) (Ma.aj (yX O R i q (k / bQ O N m)) q) (k % bQ O N m) (k' % bQ O N m) (by omega) (hH.mul _ _ hr.1 hq) aJ (Nat.mod_lt _ hs);show lexLt N (kH N O R m (i+1) _ _) (kH N O R m (i+1) _ _);rw [← hd];exact this
  ·have aJ:k / bQ O N m<k' / bQ O N m:=Nat.lt_of_le_of_ne (Nat.div_le_div_right (Nat.le_of_lt h1)) hd
   refine ⟨i,hi,fun l hl=>?_,?_⟩
   ·rw [(sO hH h (m+1) i q k e hq).2 l hl,(sO hH h (m+1) i q k' e hq).2 l hl]
   ·rw [ha,ha']
    rcases Nat.lt_trichotomy (ap q ((O.getD i []).getD j 0)) (ap q ((O.getD i []).getD j' 0)) with g | g | g
    ·exact g
    ·have:=ho.inj hj Xv g; subst this; omega
    ·have:=ho.mono Xv g; omega
def ig (N:Nat) (O:List (List Nat)) (R:List (List (List Nat))):List (List Nat):=(List.range (bQ O N N)).map (kH N O R N 0 (Ma.aR N))
theorem Kd {z:List Nat} (ha:a.length=n) (hz:z.length=n) (h:lexLt n a z):bB (Ma.ah a) (Ma.ah z)=true:=by
 cases e:bB (Ma.ah a) (Ma.ah z) with
 | true=>rfl
 | false =>
  exfalso
  have hne:Ma.ah a≠Ma.ah z:=fun e2=>by
   have:=Ma.ou e2;subst this;obtain ⟨j,_,_,h3⟩:=h;exact Nat.lt_irrefl _ h3
  have h2:=qT (by omega) (jm e hne);exact h.asymm h2
theorem sP (hg:∀ s∈gs,Gd N s) (h:ar N (Gr N (·∈gs)) O R):mW N gs (ig N O R):=by
 have hH:=Cm.Gr.fW hg;have aB:∀ k,Gr N (·∈gs) (kH N O R N 0 (Ma.aR N) k):=fun k=>(sO hH h N 0 _ k (by omega) hH.one).1
 have QM:DA ((ig N O R).map Ma.ah):=fun a b ha hb gJ=>by
  simp only [ig,List.length_map,List.length_range] at ha hb;simp only [ig,List.getElem_map,List.getElem_range];exact Kd (hH.gd _ (aB _)).2 (hH.gd _ (aB _)).2 (zO hH h N 0 _ _ _ (by omega) hH.one gJ hb)
 refine ⟨QM,fun y=>⟨fun hy=>?_,fun hy=>?_⟩⟩
 ·obtain ⟨k,_,rfl⟩:=List.mem_map.1 hy
  exact aB k
 ·by_cases hm:y∈ig N O R
  ·exact hm
  ·exfalso
   obtain ⟨p1,p2⟩:=qR hH h
   have:=fA (l:=y :: ig N O R) (List.nodup_cons.2 ⟨hm,lh QM⟩) (m:=lj N R N) fun x hx=>by
    rw [p2]
    rcases List.mem_cons.1 hx with rfl | hx
    ·exact hy
    ·obtain ⟨k,_,rfl⟩:=List.mem_map.1 hx
     exact aB k
   rw [xD h] at this;simp [ig] at this;omega
def vu (N:Nat) (O:List (List Nat)) (R:List (List (List Nat))) (x:List Nat):Nat→Nat→List Nat→Nat
 | 0,_,_=>0
 | m+1,i,q=>(O.getD i []).countP (fun y=>decide (ap q y<ap x i))*bQ O N m+vu N O R x m (i+1) (Ma.aj ((R.getD i []).getD ((List.range (O.getD i []).length).foldl (fun p j=>if ap q ((O.getD i []).getD j 0)=ap x i then j else p) 0) []) q)
theorem zP {n:Nat} {q o:List Nat} (h:ks n q o) {j:Nat} (hj:j<o.length):∀ m,j<m→m≤o.length→(List.range m).foldl (fun p l=>if ap q (o.getD l 0)=ap q (o.getD j 0) then l else p) 0=j
 | 0,h1,_=>absurd h1 (Nat.not_lt_zero _)
 | m+1,h1,h2=>by
  rw [List.range_succ,List.foldl_append];show (if _ then m else _)=j
  by_cases e2:j=m
  ·subst e2; rw [if_pos rfl]
  ·rw [if_neg (fun e3=>e2 (h.inj hj (by omega) e3.symm))]
   exact zP h hj m (by omega) (by omega)
theorem IP (hH:eI N H) (h:ar N H O R):∀ (m i:Nat) (q:List Nat) (k:Nat),i+m=N→H q→k<bQ O N m→vu N O R (kH N O R m i q k) m i q=k
 | 0,i,q,k,_,_,h2=>by have:k<1:=h2; show 0=k; omega
 | m+1,i,q,k,e,hq,h2=>by
  obtain ⟨j,hj,hp,hc,ha⟩:=Bi hH h (m:=m) (i:=i) e hq h2;have hs:=py hH h m (by omega)
  have hi:i<N:=by omega
  have ho:=lx hH h hi (hH.gd q hq);have hr:=(vH hH h hi q (k / bQ O N m)).1
  have e1:yX O R i q (k / bQ O N m)=(R.getD i []).getD j []:=by unfold yX; rw [hp]
  have ih:=IP hH h m (i+1) (Ma.aj (yX O R i q (k / bQ O N m)) q) (k % bQ O N m) (by omega) (hH.mul _ _ hr.1 hq) (Nat.mod_lt _ hs);have hx:kH N O R (m+1) i q k=kH N O R m (i+1) (Ma.aj (yX O R i q (k / bQ O N m)) q) (k % bQ O N m):=rfl;show _*_+vu N O R _ m (i+1) _=k;rw [ha,zP ho hj _ hj (Nat.le_refl _),← e1,hx,ih];have:(O.getD i []).countP (fun y=>decide (ap q y<ap q ((O.getD i []).getD j 0)))=k / bQ O N m:=hc;rw [this,Nat.mul_comm];exact Nat.div_add_mod k _
theorem T8 (hH:eI N H) (h:ar N H O R) (hk:k<(ig N O R).length):vu N O R (ig N O R)[k] N 0 (Ma.aR N)=k:=by
 have fD:k<bQ O N N:=by simpa [ig] using hk
 have:(ig N O R)[k]=kH N O R N 0 (Ma.aR N) k:=by simp [ig]
 rw [this];exact IP hH h N 0 _ k (by omega) hH.one fD
end Go.Proofs.YtbngdgfmlmkgiaaGreat

namespace Go.Proofs.YtbngdgfmlmkgiaaGreat
open Go.RowKit
open Go.Proofs
open Go.Proofs.Ob
open Go.Proofs.Cm (Gd Gr ar ap)
attribute [local irreducible] Go.Calls Go.wpList
theorem uh (bn:N≤12) (hH:Cm.eI N H) (bH:ar N H O R) (hm:m≤N):bQ O N m≤8916100448256:=by
 have h5:=vD bn (fun i hi=>gS hH bH (i:=i) hi) m hm;have h6:=Nat.pow_le_pow_right (n:=12) (by decide) (show m≤12 by omega)
 have e:(12:Nat) ^ 12=8916100448256:=by decide
 omega
theorem uL {l:List Nat} {p:Nat→Bool} {b:Nat} (hb:b<l.length):(l.take (b+1)).countP p=(l.take b).countP p+(if p (l.getD b 0) then 1 else 0):=by
 rw [List.take_succ_eq_append_getElem hb,List.countP_append,List.getD_eq_getElem?_getD,List.getElem?_eq_getElem hb];simp [List.countP_cons]
theorem D2 (aZ:1≤N) (bn:N≤12) (hH:Cm.eI N H) (bH:ar N H O R) {w:World} (h:bZ w ov rv (O.map Ma.ah) (R.map (List.map Ma.ah))) {g:Nat} (dn:dy w g (N+1) (mh O N 0)) {k0:Nat} (BQ:k0<bQ O N N) :
  Calls Tryz.prog 50 #[.agg #[.int .i64 ((N:Nat):Int),ov,rv],.slice (some ⟨g,0,none⟩) (N+1) (N+1),.int .i64 ((k0:Nat):Int)] w fun e w'=>∃ v,e=.returned v∧Rg.p_ w w' v (kH N O R N 0 (Ma.aR N) k0)∧Below w.heap.size w w':=by
 obtain ⟨ob,oo,oc,rb,ro,rc,rfl,rfl,-,-⟩:=eV bH h (i:=0) aZ;have HH:=ι hH;have cN:=ι bH;have CE:=ι h;have SZ:=ι dn;have j_:=ι BQ;have K:=ι (Below.refl w.heap.size w);clear h hH bH dn BQ
 go_enter Tryz.func50,Tryz.ntmps50
 go_upto_region 0 with fail;refine b6 ?_;have bG:=jA w (.int .i64 ((N:Nat):Int)) (.slice (some ⟨ob,oo,none⟩) N oc) (.slice (some ⟨rb,ro,none⟩) N rc);refine i8 (Rg.ba _ _ rfl rfl) ?_;go_frame;have hb:=(Below.refl w.heap.size w).alloc (Nat.le_refl _) (.cells #[.int .i64 ((N:Nat):Int),.slice (some ⟨ob,oo,none⟩) N oc,.slice (some ⟨rb,ro,none⟩) N rc] 54);generalize w.alloc (.cells #[.int .i64 ((N:Nat):Int),.slice (some ⟨ob,oo,none⟩) N oc,.slice (some ⟨rb,ro,none⟩) N rc] 54)=w1 at *;replace CE:=ι (CE.out.below hb);replace SZ:=ι (SZ.out.below hb);replace K:=ι (Rg.acc K.out hb);clear hb;have A0:=ι bG.1;have A1:=ι bG.2.1;have A2:=ι bG.2.2;clear bG;refine i5 rfl ?_;go_frame;go_upto_region 1 with fail
 refine b6<|i8 (g8 (dD _ _))<|i8 (d8 (.int .i64 ((N:Nat):Int)) ⟨w.heap.size,0,none⟩ (af A0.out.cell)) ?_;go_frame
 refine d4 16 (aq 58 _ _ rfl rfl (Fi _ _)) ?_;refine (oB N w1 (by omega)).mono ?_;rintro e1 w2 ⟨T_,rfl,lG,hb⟩;have JI:=ι (lG.2.mono K.out.size);refine ⟨_,rfl,?_⟩;go_frame;replace CE:=ι (CE.out.below hb);replace SZ:=ι (SZ.out.below hb);replace A0:=ι (A0.out.below hb);replace A1:=ι (A1.out.below hb);replace A2:=ι (A2.out.below hb);replace K:=ι (Rg.acc K.out hb);clear hb;have NQ:=ι (b_.mk lG.1);refine i3 (T_) rfl ?_;go_frame;clear lG;go_upto_region 2 with fail
 refine b6<|i4 rfl ?_;go_frame
 have K1:=ι (Below.refl w2.heap.size w2);have K0:=K;clear K;have J7:=ι HH.out.one;go_wp2
 go_loopw [2,7,8] (fun kv qv iv wr=>∃ (i k:Nat) (q:List Nat),kv=.int .i64 ((k:Nat):Int)∧iv=.int .i64 ((i:Nat):Int)∧i≤N∧Hid (b_ wr qv (Ma.ah q))∧Hid (Rg.cL w.heap.size qv)∧Hid (H q)∧Hid (k<bQ O N (N - i))∧Hid (kH N O R (N - i) i q k=kH N O R N 0 (Ma.aR N) k0)∧Hid (Below w2.heap.size w2 wr)) (fun _ _ iv _=>N - (intOf iv).toNat)
 case atStart=>exact ⟨0,k0,_,rfl,rfl,Nat.zero_le _,NQ,JI,J7,j_,ι rfl,K1⟩
 case round =>
  clear NQ JI J7 K1;obtain ⟨i,k,q,rfl,rfl,hi,NQ,JI,HQ,bd,iM,KO⟩:=hrel;generalize wr=wA at *;replace CE:=ι (CE.out.below KO.out);replace SZ:=ι (SZ.out.below KO.out);replace A0:=ι (A0.out.below KO.out);replace A1:=ι (A1.out.below KO.out);replace A2:=ι (A2.out.below KO.out);have GQ:=ι (HH.out.gd q HQ.out);obtain ⟨qb,qo,qc,rfl,yY⟩:=NQ.out.at GQ.out.2 aZ;clear yY
  by_cases aB:i<N
  case neg =>
   obtain rfl:N=i:=by omega
   go_upto_region 3 with fail
   refine b6<|i4 rfl<|i8 (g8 (dD _ _))<|i8 (d8 (.int .i64 ((N:Nat):Int)) ⟨w.heap.size,0,none⟩ (af A0.out.cell))<|i8 (d9 (.bool false) .lss (h:=aL _ d6)) ?_;go_frame
   go_upto_region 20 with fail
   refine b6<|i5 rfl<|i5 rfl ?_;go_frame
   have HF:=ι (show q=kH N O R N 0 (Ma.aR N) k0 by
    have h5:=iM.out;rw [Nat.sub_self] at h5
    exact h5)
   go_wp2;go_ret;exact ⟨_,rfl,by rw [← HF.out]; exact ⟨NQ.out.i,JI.out⟩,K0.out.trans (KO.out.mono K0.out.size)⟩
  case pos =>
   obtain ⟨m,hm⟩:∃ m,N - i=m+1:=⟨N - i - 1,by omega⟩
   have Ke:N - (i+1)=m:=by omega
   rw [hm] at bd iM;obtain ⟨s,hs⟩:∃ s:Nat,Hid (bQ O N m=s):=⟨_,ι rfl⟩;have bw:=ι aB;have GO:=ι (py HH.out cN.out m (by omega));rw [hs.out] at GO;have lf:k<8916100448256:=Nat.lt_of_lt_of_le bd.out (uh bn HH.out cN.out (by omega))
   have hsb:s≤8916100448256:=by rw [← hs.out]; exact uh bn HH.out cN.out (by omega)
   obtain ⟨os,qF⟩:∃ l,Hid (O.getD i []=l):=⟨_,ι rfl⟩;obtain ⟨rl,mT⟩:∃ l,Hid (R.getD i []=l):=⟨_,ι rfl⟩;have Bj:=ι (lx HH.out cN.out aB GQ.out);have N6:=ι (List.length_pos_of_mem (pP HH.out cN.out aB));have mJ:=ι (gS HH.out cN.out aB);have nA:=ι (cN.out.len i aB);obtain ⟨S6,S7,Pj,S8,S9,S_,e1,e2,⟨ua,uc,qU,mg⟩,⟨va,vc,G9,jP⟩⟩:=eV cN.out CE.out aB;simp only [Value.slice.injEq,Option.some.injEq,Addr.mk.injEq,and_true,true_and] at e1 e2;obtain ⟨⟨rfl,rfl⟩,rfl⟩:=e1;obtain ⟨⟨rfl,rfl⟩,rfl⟩:=e2;rw [qF.out] at qU mg G9 jP Bj N6 mJ nA;rw [mT.out] at jP nA;have G_:0<os.length:=N6.out;have oO:os.length≤N - i:=mJ.out;obtain ⟨ub,uo,Ua,e1,j8⟩:=(b_.mk mg).at (D:=os.length) rfl G_;simp only [Value.slice.injEq,true_and] at e1;obtain ⟨rfl,rfl⟩:=e1;have CO:=ι qU
   have NO:=ι (b_.mk mg);have CR:=ι G9;have RR:=ι (lI.mk jP);clear qU mg G9 jP j8
   have CS:=ι (show CL wA g (0+(i+1)) (.int .i64 ((s:Nat):Int)) from CL.mk (by
    rw [Nat.zero_add,SZ.out.2.1 (i+1) (by omega)];unfold mh
    rw [if_pos (Nat.zero_le _),Ke,hs.out]) SZ.out.1)
   obtain ⟨d,hd⟩:∃ d:Nat,Hid (k / s=d):=⟨_,ι rfl⟩;obtain ⟨k2,fD⟩:∃ d:Nat,Hid (k % s=d):=⟨_,ι rfl⟩;have qt:=ι (show ((s:Nat):Int)≠0 by have:=GO.out; omega);have HQU:=ι (show Int.tdiv ((k:Nat):Int) ((s:Nat):Int)=((d:Nat):Int) by rw [← hd.out]; rfl);have HRE:=ι (show Int.tmod ((k:Nat):Int) ((s:Nat):Int)=((k2:Nat):Int) by rw [← fD.out]; rfl);have Xw:=ι (show k2<s by rw [← fD.out]; exact Nat.mod_lt _ GO.out);have HDL:=ι (show d≤k by rw [← hd.out]; exact Nat.div_le_self _ _);have HDB:=ι (show -9223372036854775808≤((d:Nat):Int)∧((d:Nat):Int)≤9223372036854775807 by have:=HDL.out; omega);have PB:=ι (show -9223372036854775808≤((k2:Nat):Int)∧((k2:Nat):Int)≤9223372036854775807 by have:=Xw.out; omega);go_upto_region 3 with fail
   refine b6<|i4 rfl<|i8 (g8 (dD _ _))<|i8 (d8 (.int .i64 ((N:Nat):Int)) ⟨w.heap.size,0,none⟩ (af A0.out.cell))<|i8 (d9 (.bool true) .lss (h:=aL _ d5)) ?_;go_frame
   go_upto_region 5 with fail
   refine b6<|i4 rfl<|i5 rfl<|i4 rfl<|i8 (d9 (.int .i64 (((i+1):Nat):Int)) .add (h:=bI _ (by omega) (by omega))) ?_;go_frame
   refine i8 (ag aX _ _ rfl g (0) ((N+1)) (N+1) ((i+1)) rfl rfl (Nat.succ_lt_succ bw.out))<|i8 (d8 (.int .i64 ((s:Nat):Int)) ⟨g,0+(i+1),none⟩ (af CS.out.cell))<|i8 (d9 (.int .i64 ((d:Nat):Int)) .quo (h:=Aa _ qt.out HQU.out HDB.out))<|i4 rfl ?_;go_frame
   go_upto_region 6 with fail
   refine b6<|i4 rfl<|i5 rfl<|i4 rfl<|i8 (d9 (.int .i64 (((i+1):Nat):Int)) .add (h:=bI _ (by omega) (by omega))) ?_;go_frame
   refine i8 (ag aX _ _ rfl g (0) ((N+1)) (N+1) ((i+1)) rfl rfl (Nat.succ_lt_succ bw.out))<|i8 (d8 (.int .i64 ((s:Nat):Int)) ⟨g,0+(i+1),none⟩ (af CS.out.cell))<|i8 (d9 (.int .i64 ((k2:Nat):Int)) .rem (h:=FH _ qt.out HRE.out PB.out))<|i4 rfl ?_;go_frame
   clear CS;go_upto_region 7 with fail
   refine b6<|i4 rfl ?_;go_frame
   go_upto_region 8 with fail
   refine b6<|i4 rfl ?_;go_frame
   have K2:=ι (Below.refl wA.heap.size wA);go_wp2
   go_loopw [10,11] (fun pv av wr=>∃ a:Nat,pv=.int .i64 ((mY q os d a:Nat):Int)∧av=.int .i64 ((a:Nat):Int)∧a≤os.length∧Hid (Below wA.heap.size wA wr)) (fun _ av _=>os.length - (intOf av).toNat)
   case atStart=>exact ⟨0,rfl,rfl,Nat.zero_le _,K2⟩
   case round =>
    clear K2;obtain ⟨a,rfl,rfl,ha,KR⟩:=hrel;generalize wr=wB at *;have Kf:=ι (CE.out.below KR.out);have jn:=ι (SZ.out.below KR.out);have Kg:=ι (A0.out.below KR.out);have xX:=ι (A1.out.below KR.out);have D3:=ι (A2.out.below KR.out);have Bk:=ι (NQ.out.below KR.out);have xY:=ι (CO.out.below KR.out);have Ha:=ι (NO.out.below KR.out);have D4:=ι (CR.out.below KR.out);have D5:=ι (RR.out.below KR.out);have D6:=ι (Rg.acc KO.out KR.out);have Xx:=ι (Nat.le_trans K0.out.size D6.out.size);obtain ⟨pj,yZ⟩:∃ j,Hid (mY q os d a=j):=⟨_,ι rfl⟩;rw [yZ.out]
    by_cases PV:a<os.length
    case neg =>
     obtain rfl:a=os.length:=by omega
     have Dk:pj<os.length:=by rw [← yZ.out]; exact xV _ _ _ _ G_
     have wS:=ι Dk;go_upto_region 9 with fail
     refine b6<|i4 rfl<|i8 (g8 (cq _ _))<|i8 (d8 (.slice (some ⟨ob,oo,none⟩) N oc) ⟨w.heap.size,1,none⟩ (Rg.ae _ _ Tryz.underlying51 xX.out.cell))<|i4 rfl ?_;go_frame
     refine i8 (ag bF _ _ rfl ob (oo) (N) oc (i) rfl rfl bw.out)<|i8 (d8 (.slice (some ⟨ub,uo,none⟩) os.length uc) ⟨ob,oo+i,none⟩ (Rg.ae _ _ Tryz.underlying25 xY.out.cell))<|i8 (e8 Tryz.underlying25)<|i8 (d9 (.bool false) .lss (h:=aL _ d6)) ?_;go_frame
     have GR:=ι (show Gd N (rl.getD pj []) by rw [← mT.out]; exact HH.out.gd _ (nQ cN.out bw.out (by rw [qF.out]; exact wS.out)).1.1);obtain ⟨vb,vo,_,_,e1,cV,eJ,dA⟩:=cQ D5.out.r (i:=pj) (by rw [List.length_map,nA.out]; exact Dk);subst e1
     have e5:(rl.map Ma.ah)[pj]'(by rw [List.length_map,nA.out]; exact Dk)=Ma.ah (rl.getD pj []):=by rw [List.getElem_map,List.getD_eq_getElem?_getD,List.getElem?_eq_getElem]; rfl
     rw [e5] at eJ dA;obtain ⟨y,hy⟩:∃ y,Hid (rl.getD pj []=y):=⟨_,ι rfl⟩;rw [hy.out] at eJ dA GR;obtain ⟨ya,yc,cK,-⟩:=dA.shape
     rename_i ua8 uc8
     have CY:=ι (CL.mk eJ cV);have NY:=ι (b_.mk dA);clear eJ cV dA e5 cK;go_upto_region 19 with fail
     refine b6<|i8 (g8 (dE _ _))<|i8 (d8 (.slice (some ⟨rb,ro,none⟩) N rc) ⟨w.heap.size,2,none⟩ (Rg.ae _ _ Tryz.underlying52 D3.out.cell))<|i4 rfl<|i8 (ag bV _ _ rfl rb (ro) (N) rc (i) rfl rfl bw.out) ?_;go_frame
     refine i8 (d8 (.slice (some ⟨vb,vo,none⟩) os.length vc) ⟨rb,ro+i,none⟩ (Rg.ae _ _ Tryz.underlying22 D4.out.cell))<|i4 rfl<|i8 (ag aE _ _ rfl vb (vo) (os.length) vc (pj) rfl rfl wS.out)<|i8 (d8 (.slice ua8 (Ma.ah y).length uc8) ⟨vb,vo+pj,none⟩ (Rg.ae _ _ Tryz.underlying26 CY.out.cell))<|i5 rfl ?_;go_frame
     refine d4 95 (aD 26 _ _ _ rfl rfl rfl (k8 _ _)) ?_;refine (iP _ _ y q wB NY.out.i Bk.out.i (fun z hz=>by rw [GQ.out.2]; exact kB GR.out hz) (by rw [GR.out.2]; omega)).mono ?_;rintro e1 Lq ⟨mv,rfl,dL,hb⟩;have HFM:=ι (dL.2.mono Xx.out);refine ⟨_,rfl,?_⟩;go_frame;replace Kf:=ι (Kf.out.below hb);replace jn:=ι (jn.out.below hb);replace Kg:=ι (Kg.out.below hb);replace xX:=ι (xX.out.below hb);replace D3:=ι (D3.out.below hb);replace Bk:=ι (Bk.out.below hb);replace xY:=ι (xY.out.below hb);replace Ha:=ι (Ha.out.below hb);replace D4:=ι (D4.out.below hb);replace D5:=ι (D5.out.below hb);replace CY:=ι (CY.out.below hb);replace NY:=ι (NY.out.below hb);replace D6:=ι (Rg.acc D6.out hb);clear hb;have NM:=ι (b_.mk dL.1);refine i3 (mv) rfl ?_;go_frame;go_upto_region 4 with fail
     refine b6<|i4 rfl<|i8 (d9 (.int .i64 (((i+1):Nat):Int)) .add (h:=bI _ (by omega) (by omega)))<|i4 rfl ?_;go_frame
     have j2:=ι (show H (Ma.aj y q) from HH.out.mul _ _ (by rw [← hy.out,← mT.out]; exact (nQ cN.out bw.out (by rw [qF.out]; exact wS.out)).1.1) HQ.out);have qx:=ι (show k2<bQ O N (N - (i+1)) by rw [Ke,hs.out]; exact Xw.out)
     have uZ:=ι (show kH N O R (N - (i+1)) (i+1) (Ma.aj y q) k2=kH N O R N 0 (Ma.aR N) k0 by
      rw [← iM.out,Ke];show _=kH N O R m (i+1) (Ma.aj ((R.getD i []).getD (mY q (O.getD i []) (k / bQ O N m) (O.getD i []).length) []) q) (k % bQ O N m)
      rw [hs.out,hd.out,fD.out,qF.out,mT.out,yZ.out,hy.out])
     go_wp2
     go_roundw
     case rel=>exact ⟨i+1,k2,_,rfl,by go_num,bw.out,NM,HFM,j2,qx,uZ,D6⟩
     case measure=>simp [intOf]; have:=bw.out; omega
    case pos =>
     have mZ:=ι PV;go_upto_region 9 with fail
     refine b6<|i4 rfl<|i8 (g8 (cq _ _))<|i8 (d8 (.slice (some ⟨ob,oo,none⟩) N oc) ⟨w.heap.size,1,none⟩ (Rg.ae _ _ Tryz.underlying51 xX.out.cell))<|i4 rfl ?_;go_frame
     refine i8 (ag bF _ _ rfl ob (oo) (N) oc (i) rfl rfl bw.out)<|i8 (d8 (.slice (some ⟨ub,uo,none⟩) os.length uc) ⟨ob,oo+i,none⟩ (Rg.ae _ _ Tryz.underlying25 xY.out.cell))<|i8 (e8 Tryz.underlying25)<|i8 (d9 (.bool true) .lss (h:=aL _ d5)) ?_;go_frame
     go_upto_region 11 with fail
     refine b6<|i4 rfl ?_;go_frame
     go_upto_region 12 with fail
     refine b6<|i4 rfl ?_;go_frame
     obtain ⟨z,hz⟩:∃ z,Hid (os.getD a 0=z):=⟨_,ι rfl⟩;have Ub:=ι (show z<N by rw [← hz.out,Bj.out.at mZ.out]; exact Bj.out.lt _ (List.getElem_mem _));obtain ⟨qz,Xy⟩:∃ z',Hid (ap q z=z'):=⟨_,ι rfl⟩;have K4:=ι (Below.refl wB.heap.size wB);go_wp2
     go_loopw [12,13] (fun cv bv wr=>∃ b:Nat,cv=.int .i64 (((os.take b).countP (fun y=>decide (ap q y<qz)):Nat):Int)∧bv=.int .i64 ((b:Nat):Int)∧b≤os.length∧Hid (Below wB.heap.size wB wr)) (fun _ bv _=>os.length - (intOf bv).toNat)
     case atStart=>exact ⟨0,rfl,rfl,Nat.zero_le _,K4⟩
     case round =>
      clear K4;obtain ⟨b,rfl,rfl,dG,KS⟩:=hrel;have PW:=ι (Kf.out.below KS.out);have PX:=ι (jn.out.below KS.out);have PY:=ι (Kg.out.below KS.out);have sQ:=ι (xX.out.below KS.out);have PZ:=ι (D3.out.below KS.out);have N7:=ι (Bk.out.below KS.out);have sR:=ι (xY.out.below KS.out);have N8:=ι (Ha.out.below KS.out);have P0:=ι (D4.out.below KS.out);have P1:=ι (D5.out.below KS.out);have Xz:=ι (Rg.acc KR.out KS.out);obtain ⟨c,hc⟩:∃ c,Hid ((os.take b).countP (fun y=>decide (ap q y<qz))=c):=⟨_,ι rfl⟩
      have qN:c≤b:=by
       rw [← hc.out];exact Nat.le_trans List.countP_le_length (by rw [List.length_take]; omega)
      rw [hc.out]
      by_cases xM:b<os.length
      case neg =>
       obtain rfl:b=os.length:=by omega
       go_upto_region 13 with fail
       refine b6<|i4 rfl<|i8 (g8 (cq _ _))<|i8 (d8 (.slice (some ⟨ob,oo,none⟩) N oc) ⟨w.heap.size,1,none⟩ (Rg.ae _ _ Tryz.underlying51 sQ.out.cell))<|i4 rfl ?_;go_frame
       refine i8 (ag bF _ _ rfl ob (oo) (N) oc (i) rfl rfl bw.out)<|i8 (d8 (.slice (some ⟨ub,uo,none⟩) os.length uc) ⟨ob,oo+i,none⟩ (Rg.ae _ _ Tryz.underlying25 sR.out.cell))<|i8 (e8 Tryz.underlying25)<|i8 (d9 (.bool false) .lss (h:=aL _ d6)) ?_;go_frame
       have P2:=ι (show lu q os a=c by
        rw [← hc.out,List.take_length];unfold lu
        rw [hz.out,Xy.out])
       by_cases XA:c=d
       case pos =>
        skip
        go_upto_region 17 with fail
        refine b6<|i4 rfl<|i4 rfl<|i8 (d9 (.bool true) .eql (h:=cJ _ d5)) ?_;go_frame
        go_upto_region 18 with fail
        refine b6<|i4 rfl<|i4 rfl ?_;go_frame
        go_upto_region 10 with fail
        refine b6<|i4 rfl<|i8 (d9 (.int .i64 (((a+1):Nat):Int)) .add (h:=bI _ (by omega) (by omega)))<|i4 rfl ?_;go_frame
        have r_:=ι (show mY q os d (a+1)=a by rw [nP,P2.out,if_pos XA]);go_wp2
        go_roundw
        case rel=>exact ⟨a+1,by rw [r_.out],by go_num,mZ.out,Xz⟩
        case measure=>simp [intOf]; have:=mZ.out; omega
       case neg =>
        go_upto_region 17 with fail
        refine b6<|i4 rfl<|i4 rfl<|i8 (d9 (.bool false) .eql (h:=cJ _ d6)) ?_;go_frame
        go_upto_region 10 with fail
        refine b6<|i4 rfl<|i8 (d9 (.int .i64 (((a+1):Nat):Int)) .add (h:=bI _ (by omega) (by omega)))<|i4 rfl ?_;go_frame
        have r_:=ι (show mY q os d (a+1)=pj by rw [nP,P2.out,if_neg XA,yZ.out]);go_wp2
        go_roundw
        case rel=>exact ⟨a+1,by rw [r_.out],by go_num,mZ.out,Xz⟩
        case measure=>simp [intOf]; have:=mZ.out; omega
      case pos =>
       have xZ:=ι xM;obtain ⟨y,hy⟩:∃ y,Hid (os.getD b 0=y):=⟨_,ι rfl⟩;have Kh:=ι (show y<N by rw [← hy.out,Bj.out.at xZ.out]; exact Bj.out.lt _ (List.getElem_mem _));obtain ⟨qy,Bl⟩:∃ z',Hid (ap q y=z'):=⟨_,ι rfl⟩;obtain ⟨ub',uo',Ua,e1,j8⟩:=N8.out.at (D:=os.length) rfl G_;simp only [Value.slice.injEq,Option.some.injEq,Addr.mk.injEq,and_true,true_and] at e1;obtain ⟨⟨rfl,rfl⟩,rfl⟩:=e1;obtain ⟨Uc,Ud,qc',e1,yY⟩:=N7.out.at (D:=N) GQ.out.2 aZ;simp only [Value.slice.injEq,Option.some.injEq,Addr.mk.injEq,and_true,true_and] at e1;obtain ⟨⟨rfl,rfl⟩,rfl⟩:=e1;have y4:=ι (show CL wr ub (uo+b) (.int .i64 ((y:Nat):Int)) from hy.out▸j8 b xM);have D7:=ι (show CL wr ub (uo+a) (.int .i64 ((z:Nat):Int)) from hz.out▸j8 a mZ.out);have y5:=ι (show CL wr qb (qo+y) (.int .i64 ((qy:Nat):Int)) from Bl.out▸yY y Kh.out)
       have D8:=ι (show CL wr qb (qo+z) (.int .i64 ((qz:Nat):Int)) from Xy.out▸yY z Ub.out);clear j8 yY
       have mU:=ι (show (os.take (b+1)).countP (fun y=>decide (ap q y<qz))=c+(if qy<qz then 1 else 0) by
        rw [uL xZ.out,hc.out,hy.out,Bl.out]; simp)
       go_upto_region 13 with fail
       refine b6<|i4 rfl<|i8 (g8 (cq _ _))<|i8 (d8 (.slice (some ⟨ob,oo,none⟩) N oc) ⟨w.heap.size,1,none⟩ (Rg.ae _ _ Tryz.underlying51 sQ.out.cell))<|i4 rfl ?_;go_frame
       refine i8 (ag bF _ _ rfl ob (oo) (N) oc (i) rfl rfl bw.out)<|i8 (d8 (.slice (some ⟨ub,uo,none⟩) os.length uc) ⟨ob,oo+i,none⟩ (Rg.ae _ _ Tryz.underlying25 sR.out.cell))<|i8 (e8 Tryz.underlying25)<|i8 (d9 (.bool true) .lss (h:=aL _ d5)) ?_;go_frame
       by_cases aJ:qy<qz
       case pos =>
        rw [if_pos aJ] at mU;go_upto_region 15 with fail;have aw:Below wr.heap.size wr wr.drew:=(Below.refl _ _).drew;replace PW:=ι (PW.out.below aw);replace PX:=ι (PX.out.below aw);replace PY:=ι (PY.out.below aw);replace sQ:=ι (sQ.out.below aw);replace PZ:=ι (PZ.out.below aw);replace N7:=ι (N7.out.below aw);replace sR:=ι (sR.out.below aw);replace N8:=ι (N8.out.below aw);replace P0:=ι (P0.out.below aw);replace P1:=ι (P1.out.below aw);replace y4:=ι (y4.out.below aw);replace D7:=ι (D7.out.below aw);replace y5:=ι (y5.out.below aw);replace D8:=ι (D8.out.below aw);replace KS:=ι (Rg.acc KS.out aw);clear aw;refine Rg.Any.begin (S:=Rg.aH 22 (fun _=>True) (fun W=>Below wr.drew.heap.size wr.drew W)) mix ?_;generalize wr.drew=x7 at *;have hS:∀ (l:Array Bool) W,Below x7.heap.size x7 W→Rg.aH 22 (fun _=>True) (fun W=>Below x7.heap.size x7 W) l W:=fun l W h=>⟨.inr trivial,h⟩
        have hI:Below x7.heap.size x7 x7:=Below.refl _ _
        refine c8 0 22 (.slice (some ⟨qb,qo,none⟩) N qc) 57 (hS _ _ hI)<|c7 1 22 (.pointer (some ⟨w.heap.size,1,none⟩)) 58 rfl rfl (g7 fun w=>aA _ rfl rfl (cq _ _)) (hS _ _ hI)<|c7 2 22 (.slice (some ⟨ob,oo,none⟩) N oc) 59 rfl rfl (g6 ⟨w.heap.size,1,none⟩ (fun W hW=>Rg.ae _ _ Tryz.underlying51 ((Below.cell (p:=⟨w.heap.size,1,none⟩) hW sQ.out.lt).trans sQ.out.cell))) (hS _ _ hI)<|c8 3 22 (.int .i64 ((i:Nat):Int)) 60 (hS _ _ hI)<|c7 4 22 (.pointer (some ⟨ob,oo+i,none⟩)) 61 rfl rfl (Rg.ai bF _ _ rfl rfl ob (oo) (N) oc (i) rfl rfl bw.out) (hS _ _ hI) ?_;go_frame
        refine c7 5 22 (.slice (some ⟨ub,uo,none⟩) os.length uc) 62 rfl rfl (g6 ⟨ob,oo+i,none⟩ (fun W hW=>Rg.ae _ _ Tryz.underlying25 ((Below.cell (p:=⟨ob,oo+i,none⟩) hW sR.out.lt).trans sR.out.cell))) (hS _ _ hI)<|c8 6 22 (.int .i64 ((b:Nat):Int)) 63 (hS _ _ hI)<|c7 7 22 (.pointer (some ⟨ub,uo+b,none⟩)) 64 rfl rfl (Rg.ai aX _ _ rfl rfl ub (uo) (os.length) uc (b) rfl rfl xZ.out) (hS _ _ hI)<|c7 8 22 (.int .i64 ((y:Nat):Int)) 65 rfl rfl (g6 ⟨ub,uo+b,none⟩ (fun W hW=>af ((Below.cell (p:=⟨ub,uo+b,none⟩) hW y4.out.lt).trans y4.out.cell))) (hS _ _ hI)<|c7 9 22 (.pointer (some ⟨qb,qo+y,none⟩)) 66 rfl rfl (Rg.ai bK _ _ rfl rfl qb (qo) (N) qc (y) rfl rfl Kh.out) (hS _ _ hI) ?_;go_frame
        refine c7 10 22 (.int .i64 ((qy:Nat):Int)) 67 rfl rfl (g6 ⟨qb,qo+y,none⟩ (fun W hW=>af ((Below.cell (p:=⟨qb,qo+y,none⟩) hW y5.out.lt).trans y5.out.cell))) (hS _ _ hI)<|c8 11 22 (.slice (some ⟨qb,qo,none⟩) N qc) 68 (hS _ _ hI)<|c7 12 22 (.pointer (some ⟨w.heap.size,1,none⟩)) 69 rfl rfl (g7 fun w=>aA _ rfl rfl (cq _ _)) (hS _ _ hI)<|c7 13 22 (.slice (some ⟨ob,oo,none⟩) N oc) 70 rfl rfl (g6 ⟨w.heap.size,1,none⟩ (fun W hW=>Rg.ae _ _ Tryz.underlying51 ((Below.cell (p:=⟨w.heap.size,1,none⟩) hW sQ.out.lt).trans sQ.out.cell))) (hS _ _ hI)<|c8 14 22 (.int .i64 ((i:Nat):Int)) 71 (hS _ _ hI) ?_;go_frame
        refine c7 15 22 (.pointer (some ⟨ob,oo+i,none⟩)) 72 rfl rfl (Rg.ai bF _ _ rfl rfl ob (oo) (N) oc (i) rfl rfl bw.out) (hS _ _ hI)<|c7 16 22 (.slice (some ⟨ub,uo,none⟩) os.length uc) 73 rfl rfl (g6 ⟨ob,oo+i,none⟩ (fun W hW=>Rg.ae _ _ Tryz.underlying25 ((Below.cell (p:=⟨ob,oo+i,none⟩) hW sR.out.lt).trans sR.out.cell))) (hS _ _ hI)<|c8 17 22 (.int .i64 ((a:Nat):Int)) 74 (hS _ _ hI)<|c7 18 22 (.pointer (some ⟨ub,uo+a,none⟩)) 75 rfl rfl (Rg.ai aX _ _ rfl rfl ub (uo) (os.length) uc (a) rfl rfl mZ.out) (hS _ _ hI)<|c7 19 22 (.int .i64 ((z:Nat):Int)) 76 rfl rfl (g6 ⟨ub,uo+a,none⟩ (fun W hW=>af ((Below.cell (p:=⟨ub,uo+a,none⟩) hW D7.out.lt).trans D7.out.cell))) (hS _ _ hI) ?_;go_frame
        refine c7 20 22 (.pointer (some ⟨qb,qo+z,none⟩)) 77 rfl rfl (Rg.ai bK _ _ rfl rfl qb (qo) (N) qc (z) rfl rfl Ub.out) (hS _ _ hI)<|c7 21 22 (.int .i64 ((qz:Nat):Int)) 78 rfl rfl (g6 ⟨qb,qo+z,none⟩ (fun W hW=>af ((Below.cell (p:=⟨qb,qo+z,none⟩) hW D8.out.lt).trans D8.out.cell))) (hS _ _ hI)<|g5 22 79 rfl rfl (d9 (.bool true) .lss (h:=aL _ d5)) (hS _ _ hI) ?_;go_frame
        refine Rg.Any.done (by kernel_rfl) ?_ _;clear hS hI;go_upto_region 16 with fail
        refine b6<|i4 rfl<|i8 (d9 (.int .i64 (((c+1):Nat):Int)) .add (h:=bI _ (by omega) (by omega)))<|i4 rfl ?_;go_frame
        go_upto_region 14 with fail
        refine b6<|i4 rfl<|i8 (d9 (.int .i64 (((b+1):Nat):Int)) .add (h:=bI _ (by omega) (by omega)))<|i4 rfl ?_;go_frame
        go_wp2
        go_roundw
        case rel=>exact ⟨b+1,by rw [mU.out],by go_num,xZ.out,KS⟩
        case measure=>simp [intOf]; have:=xZ.out; omega
       case neg =>
        rw [if_neg aJ] at mU;go_upto_region 15 with fail;have aw:Below wr.heap.size wr wr.drew:=(Below.refl _ _).drew;replace PW:=ι (PW.out.below aw);replace PX:=ι (PX.out.below aw);replace PY:=ι (PY.out.below aw);replace sQ:=ι (sQ.out.below aw);replace PZ:=ι (PZ.out.below aw);replace N7:=ι (N7.out.below aw);replace sR:=ι (sR.out.below aw);replace N8:=ι (N8.out.below aw);replace P0:=ι (P0.out.below aw);replace P1:=ι (P1.out.below aw);replace y4:=ι (y4.out.below aw);replace D7:=ι (D7.out.below aw);replace y5:=ι (y5.out.below aw);replace D8:=ι (D8.out.below aw);replace KS:=ι (Rg.acc KS.out aw);clear aw;refine Rg.Any.begin (S:=Rg.aH 22 (fun _=>True) (fun W=>Below wr.drew.heap.size wr.drew W)) mix ?_;generalize wr.drew=x8 at *;have hS:∀ (l:Array Bool) W,Below x8.heap.size x8 W→Rg.aH 22 (fun _=>True) (fun W=>Below x8.heap.size x8 W) l W:=fun l W h=>⟨.inr trivial,h⟩
        have hI:Below x8.heap.size x8 x8:=Below.refl _ _
        refine c8 0 22 (.slice (some ⟨qb,qo,none⟩) N qc) 57 (hS _ _ hI)<|c7 1 22 (.pointer (some ⟨w.heap.size,1,none⟩)) 58 rfl rfl (g7 fun w=>aA _ rfl rfl (cq _ _)) (hS _ _ hI)<|c7 2 22 (.slice (some ⟨ob,oo,none⟩) N oc) 59 rfl rfl (g6 ⟨w.heap.size,1,none⟩ (fun W hW=>Rg.ae _ _ Tryz.underlying51 ((Below.cell (p:=⟨w.heap.size,1,none⟩) hW sQ.out.lt).trans sQ.out.cell))) (hS _ _ hI)<|c8 3 22 (.int .i64 ((i:Nat):Int)) 60 (hS _ _ hI)<|c7 4 22 (.pointer (some ⟨ob,oo+i,none⟩)) 61 rfl rfl (Rg.ai bF _ _ rfl rfl ob (oo) (N) oc (i) rfl rfl bw.out) (hS _ _ hI) ?_;go_frame
        refine c7 5 22 (.slice (some ⟨ub,uo,none⟩) os.length uc) 62 rfl rfl (g6 ⟨ob,oo+i,none⟩ (fun W hW=>Rg.ae _ _ Tryz.underlying25 ((Below.cell (p:=⟨ob,oo+i,none⟩) hW sR.out.lt).trans sR.out.cell))) (hS _ _ hI)<|c8 6 22 (.int .i64 ((b:Nat):Int)) 63 (hS _ _ hI)<|c7 7 22 (.pointer (some ⟨ub,uo+b,none⟩)) 64 rfl rfl (Rg.ai aX _ _ rfl rfl ub (uo) (os.length) uc (b) rfl rfl xZ.out) (hS _ _ hI)<|c7 8 22 (.int .i64 ((y:Nat):Int)) 65 rfl rfl (g6 ⟨ub,uo+b,none⟩ (fun W hW=>af ((Below.cell (p:=⟨ub,uo+b,none⟩) hW y4.out.lt).trans y4.out.cell))) (hS _ _ hI)<|c7 9 22 (.pointer (some ⟨qb,qo+y,none⟩)) 66 rfl rfl (Rg.ai bK _ _ rfl rfl qb (qo) (N) qc (y) rfl rfl Kh.out) (hS _ _ hI) ?_;go_frame
        refine c7 10 22 (.int .i64 ((qy:Nat):Int)) 67 rfl rfl (g6 ⟨qb,qo+y,none⟩ (fun W hW=>af ((Below.cell (p:=⟨qb,qo+y,none⟩) hW y5.out.lt).trans y5.out.cell))) (hS _ _ hI)<|c8 11 22 (.slice (some ⟨qb,qo,none⟩) N qc) 68 (hS _ _ hI)<|c7 12 22 (.pointer (some ⟨w.heap.size,1,none⟩)) 69 rfl rfl (g7 fun w=>aA _ rfl rfl (cq _ _)) (hS _ _ hI)<|c7 13 22 (.slice (some ⟨ob,oo,none⟩) N oc) 70 rfl rfl (g6 ⟨w.heap.size,1,none⟩ (fun W hW=>Rg.ae _ _ Tryz.underlying51 ((Below.cell (p:=⟨w.heap.size,1,none⟩) hW sQ.out.lt).trans sQ.out.cell))) (hS _ _ hI)<|c8 14 22 (.int .i64 ((i:Nat):Int)) 71 (hS _ _ hI) ?_;go_frame
        refine c7 15 22 (.pointer (some ⟨ob,oo+i,none⟩)) 72 rfl rfl (Rg.ai bF _ _ rfl rfl ob (oo) (N) oc (i) rfl rfl bw.out) (hS _ _ hI)<|c7 16 22 (.slice (some ⟨ub,uo,none⟩) os.length uc) 73 rfl rfl (g6 ⟨ob,oo+i,none⟩ (fun W hW=>Rg.ae _ _ Tryz.underlying25 ((Below.cell (p:=⟨ob,oo+i,none⟩) hW sR.out.lt).trans sR.out.cell))) (hS _ _ hI)<|c8 17 22 (.int .i64 ((a:Nat):Int)) 74 (hS _ _ hI)<|c7 18 22 (.pointer (some ⟨ub,uo+a,none⟩)) 75 rfl rfl (Rg.ai aX _ _ rfl rfl ub (uo) (os.length) uc (a) rfl rfl mZ.out) (hS _ _ hI)<|c7 19 22 (.int .i64 ((z:Nat):Int)) 76 rfl rfl (g6 ⟨ub,uo+a,none⟩ (fun W hW=>af ((Below.cell (p:=⟨ub,uo+a,none⟩) hW D7.out.lt).trans D7.out.cell))) (hS _ _ hI) ?_;go_frame
        refine c7 20 22 (.pointer (some ⟨qb,qo+z,none⟩)) 77 rfl rfl (Rg.ai bK _ _ rfl rfl qb (qo) (N) qc (z) rfl rfl Ub.out) (hS _ _ hI)<|c7 21 22 (.int .i64 ((qz:Nat):Int)) 78 rfl rfl (g6 ⟨qb,qo+z,none⟩ (fun W hW=>af ((Below.cell (p:=⟨qb,qo+z,none⟩) hW D8.out.lt).trans D8.out.cell))) (hS _ _ hI)<|g5 22 79 rfl rfl (d9 (.bool false) .lss (h:=aL _ d6)) (hS _ _ hI) ?_;go_frame
        refine Rg.Any.done (by kernel_rfl) ?_ _;clear hS hI;go_upto_region 14 with fail
        refine b6<|i4 rfl<|i8 (d9 (.int .i64 (((b+1):Nat):Int)) .add (h:=bI _ (by omega) (by omega)))<|i4 rfl ?_;go_frame
        go_wp2
        go_roundw
        case rel=>exact ⟨b+1,by rw [mU.out]; rfl,by go_num,xZ.out,KS⟩
        case measure=>simp [intOf]; have:=xZ.out; omega
end Go.Proofs.YtbngdgfmlmkgiaaGreat

namespace Go.Proofs.YtbngdgfmlmkgiaaGreat
open Go.RowKit
open Go.Proofs
open Go.Proofs.Ob
open Go.Proofs.Cm (Gd)
attribute [local irreducible] Go.Calls Go.wpList
theorem iL.zero {w:World} {c:Int} (h:iL w d ll cv c) (hc:c≠0):cv=jg:=by
 rcases h with ⟨_,h⟩ | ⟨h,_⟩
 ·exact h
 ·exact absurd h hc
end Go.Proofs.YtbngdgfmlmkgiaaGreat

namespace Go.Proofs.YtbngdgfmlmkgiaaGreat
open Go.RowKit
open Go.Proofs
open Go.Proofs.Ob
open Go.Proofs.Cm (Gd Gr ar)
attribute [local irreducible] Go.Calls Go.wpList
theorem mW.pos {d:Nat} {A:List (List Nat)} (h:mW d gs A):0<A.length:=List.length_pos_of_mem ((h.2 _).2 .one)
theorem IQ.QN (h1:1≤N) (h2:N≤64) (hg:∀ s∈gs,Gd N s) (hc:ar N (Gr N (·∈gs)) O R):c_ ((N:Nat):Int) (O.map Ma.ah) (R.map (List.map Ma.ah))=0:=kC (tQ h1 h2 hg hc)
theorem Hb (h1:1≤N) (h2:N≤64) (hg:∀ s∈gs,Gd N s) (hc:ar N (Gr N (·∈gs)) O R) (gy:Gd N y):iw ((N:Nat):Int) (O.map Ma.ah) (R.map (List.map Ma.ah)) (Ma.ah y)=0 :=
 tU (IQ.QN h1 h2 hg hc) (Ma.oq (by rw [Ma.aG,gy.2]; exact h1) (by rw [Ma.aG,gy.2]; exact h2) (Ma.vM gy.1)) (by rw [Ma.aG,gy.2])
theorem oR.of {w:World} {n:Int} (h:bZ w ov rv OO RR):oR w (.agg #[.int .i64 n,ov,rv]) n OO RR:=⟨ov,rv,rfl,h.1,h.2⟩
theorem oR.below {w w':World} {cv:Value} {n:Int} {OO:List (List Int)} {RR:List (List (List Int))} (h:oR w cv n OO RR) (hb:Below w.heap.size w w'):oR w' cv n OO RR:=by
 obtain ⟨ov,rv,h1,h2,h3⟩:=h;exact ⟨ov,rv,h1,h2.below hb,h3.below hb⟩
end Go.Proofs.YtbngdgfmlmkgiaaGreat

namespace Go.Proofs.YtbngdgfmlmkgiaaGreat
open Go.RowKit
open Go.Proofs
open Go.Proofs.Ob
open Go.Proofs.Cm (Gd Gr ar ap)
attribute [local irreducible] Go.Calls Go.wpList
theorem Ue (args:Array Value) (w:World):(callFunc 50 args).run Tryz.prog w=.ok (.enter 50 args) w:=by kernel_rfl
theorem P3 {v u:Value} {x:List Nat} (hr:fe B W v ll) (hB:B≤W.heap.size) (h:Rg.p_ W W' u x):Rg.FI (PG B W' v) W' u (Ma.ah x):=by
 obtain ⟨a,cap,e1,e2,e3,e4,e5⟩:=show Rg.cu W' u ((Ma.ah x).map (Value.int .i64)) from h.1;refine ⟨a,cap,e1,e2,e3,e4,fun h0=>?_⟩;obtain ⟨b,o,rfl,hb,hc⟩:=e5 h0;have h1:W.heap.size≤b:=h.2 _ _ _ e1;exact ⟨b,o,rfl,hb,⟨by omega,hb,fun e=>by have:=(hr.lt b e).2; omega⟩,hc⟩
theorem D_ (aZ:1≤N) (bn:N≤12) (hg:∀ s∈gs,Gd N s) (bH:ar N (Gr N (·∈gs)) O R) {w:World} (h:bZ w ov rv (O.map Ma.ah) (R.map (List.map Ma.ah))) (hs:bQ O N N≤5040) :
  Calls Tryz.prog 24 #[.agg #[.int .i64 ((N:Nat):Int),ov,rv]] w fun e w'=>∃ v,e=.returned (.tuple #[v,.int .i64 0])∧Rg.Rows w' v ((ig N O R).map Ma.ah)∧Below w.heap.size w w':=by
 obtain ⟨ob,oo,oc,rb,ro,rc,rfl,rfl,-,-⟩:=eV bH h (i:=0) aZ;have cN:=ι bH;have HG:=ι hg;have P2:=ι (IQ.QN aZ (by omega) hg bH);have CE:=ι h;have K:=ι (Below.refl w.heap.size w);have SG:=ι (py (Cm.Gr.fW hg) bH N (Nat.le_refl N));obtain ⟨S,hS⟩:∃ s,Hid (bQ O N N=s):=⟨_,ι rfl⟩;rw [hS.out] at hs SG;clear h bH
 go_enter Tryz.func24,Tryz.ntmps24
 go_upto_region 0 with fail;refine b6 ?_;have bG:=jA w (.int .i64 ((N:Nat):Int)) (.slice (some ⟨ob,oo,none⟩) N oc) (.slice (some ⟨rb,ro,none⟩) N rc);refine i8 (Rg.ba _ _ rfl rfl) ?_;go_frame;have hb:=(Below.refl w.heap.size w).alloc (Nat.le_refl _) (.cells #[.int .i64 ((N:Nat):Int),.slice (some ⟨ob,oo,none⟩) N oc,.slice (some ⟨rb,ro,none⟩) N rc] 54);generalize w.alloc (.cells #[.int .i64 ((N:Nat):Int),.slice (some ⟨ob,oo,none⟩) N oc,.slice (some ⟨rb,ro,none⟩) N rc] 54)=w1 at *;replace CE:=ι (CE.out.below hb);replace K:=ι (Rg.acc K.out hb);clear hb;have A0:=ι bG.1;have A1:=ι bG.2.1;have A2:=ι bG.2.2;clear bG
 refine i5 rfl<|i4 rfl ?_;go_frame
 go_upto_region 1 with fail
 refine b6<|i8 (d8 ((.agg #[.int .i64 ((N:Nat):Int),.slice (some ⟨ob,oo,none⟩) N oc,.slice (some ⟨rb,ro,none⟩) N rc])) ⟨w.heap.size,0,none⟩ (bh A0.out.cell A1.out.cell A2.out.cell)) ?_;go_frame
 refine d4 10 (aq 48 _ _ rfl rfl (AX _ _)) ?_;refine (lR CE.out).mono ?_;rintro e1 w2 ⟨rfl,hb⟩;rw [P2.out];refine ⟨_,rfl,?_⟩;go_frame;replace CE:=ι (CE.out.below hb);replace A0:=ι (A0.out.below hb);replace A1:=ι (A1.out.below hb);replace A2:=ι (A2.out.below hb);replace K:=ι (Rg.acc K.out hb);clear hb;refine i4 rfl ?_;go_frame;go_upto_region 2 with fail
 refine b6<|i4 rfl<|i8 (d9 (.bool false) .neq (h:=ax _ d6)) ?_;go_frame
 go_upto_region 4 with fail
 refine b6<|i8 (d8 ((.agg #[.int .i64 ((N:Nat):Int),.slice (some ⟨ob,oo,none⟩) N oc,.slice (some ⟨rb,ro,none⟩) N rc])) ⟨w.heap.size,0,none⟩ (bh A0.out.cell A1.out.cell A2.out.cell)) ?_;go_frame
 refine d4 16 (aq 49 _ _ rfl rfl (G2 _ _)) ?_;refine (nJ aZ bn (Cm.Gr.fW HG.out) cN.out CE.out).mono ?_;rintro e1 w3 ⟨g,rfl,dn,-,hb⟩;refine ⟨_,rfl,?_⟩;go_frame;replace CE:=ι (CE.out.below hb);replace A0:=ι (A0.out.below hb);replace A1:=ι (A1.out.below hb);replace A2:=ι (A2.out.below hb);replace K:=ι (Rg.acc K.out hb);clear hb;have SZ:=ι (dn)
 refine i3 (.tuple #[.slice (some ⟨g,0,none⟩) (N+1) (N+1),.bool true]) rfl<|i8 (f8 (.slice (some ⟨g,0,none⟩) (N+1) (N+1)))<|i8 (f8 (.bool true))<|i5 rfl<|i7 rfl ?_;go_frame
 clear dn
 have XB:mh O N 0 0=((S:Nat):Int):=by
  unfold mh;rw [if_pos (Nat.le_refl _),Nat.sub_zero,hS.out]
 have CS:=ι (show CL w3 g (0+0) (.int .i64 ((S:Nat):Int)) from CL.mk (by rw [SZ.out.2.1 0 (Nat.succ_pos _),XB]) SZ.out.1);go_upto_region 5 with fail
 refine b6<|i7 rfl<|i8 (bE _ _ true rfl rfl)<|i7 rfl<|i5 rfl ?_;go_frame
 refine i8 (ag aX _ _ rfl g (0) ((N+1)) (N+1) (0) rfl rfl (Nat.succ_pos _))<|i8 (d8 (.int .i64 ((S:Nat):Int)) ⟨g,0+0,none⟩ (af CS.out.cell))<|i8 (d9 (.bool false) .gtr (h:=cw _ d6))<|i8 (f4 (.bool false)) ?_;go_frame
 go_upto_region 7 with fail
 refine b6<|i5 rfl ?_;go_frame
 go_upto_region 8 with fail
 refine b6<|i4 rfl ?_;go_frame
 have K1:=ι (Below.refl w3.heap.size w3);have XC:=ι (show fe w3.heap.size w3 (.slice none 0 0) (((ig N O R).take 0).map Ma.ah) from fe.nil _ _);have tS:=ι (show (ig N O R).length=S by rw [← hS.out]; simp [ig]);go_wp2
 go_loopw [7,8] (fun ov kv wr=>∃ k:Nat,kv=.int .i64 ((k:Nat):Int)∧k≤S∧Hid (fe w3.heap.size wr ov (((ig N O R).take k).map Ma.ah))∧Hid (Below w3.heap.size w3 wr)) (fun _ kv _=>S - (intOf kv).toNat)
 case atStart=>exact ⟨0,rfl,Nat.zero_le _,XC,K1⟩
 case round =>
  clear XC K1;obtain ⟨k,rfl,hk,RP,KO⟩:=hrel;generalize wr=wA at *;have N9:=ι (show (((ig N O R).take k).map Ma.ah).length=k by rw [List.length_map,List.length_take,tS.out]; omega);obtain ⟨ta,tc,cK⟩:=RP.out.shape;rw [N9.out] at cK;subst cK;have vw:=ι (CE.out.below KO.out);have Uf:=ι (A0.out.below KO.out);have Ug:=ι (A1.out.below KO.out);have Uh:=ι (A2.out.below KO.out);have Ui:=ι (SZ.out.below KO.out);have P4:=ι (CS.out.below KO.out)
  by_cases bP:k<S
  case neg =>
   obtain rfl:S=k:=by omega
   go_upto_region 9 with fail
   refine b6<|i4 rfl<|i5 rfl<|i8 (ag aX _ _ rfl g (0) ((N+1)) (N+1) (0) rfl rfl (Nat.succ_pos _))<|i8 (d8 (.int .i64 ((S:Nat):Int)) ⟨g,0+0,none⟩ (af P4.out.cell)) ?_;go_frame
   refine i8 (d9 (.bool false) .lss (h:=aL _ d6)) ?_;go_frame;go_upto_region 12 with fail
   refine b6<|i5 rfl<|i5 rfl<|i4 rfl ?_;go_frame
   have NC:=ι (show Rg.Rows wA (.slice ta S tc) ((ig N O R).map Ma.ah) by
    have h5:=(RP.out.E0 (G:=fun _=>True) (by rw [N9.out]; omega) (fun _ _ _=>trivial)).rows
    rwa [List.take_of_length_le (by rw [tS.out]; exact Nat.le_refl _)] at h5)
   go_wp2
   go_ret2
   exact ⟨_,rfl,NC.out,K.out.trans (KO.out.mono K.out.size)⟩
  case pos =>
   have iH:k<bQ O N N:=by rw [hS.out]; exact bP
   have bd:=ι bP;have HKU:=ι (show k<(ig N O R).length by rw [tS.out]; exact bP);go_upto_region 9 with fail
   refine b6<|i4 rfl<|i5 rfl<|i8 (ag aX _ _ rfl g (0) ((N+1)) (N+1) (0) rfl rfl (Nat.succ_pos _))<|i8 (d8 (.int .i64 ((S:Nat):Int)) ⟨g,0+0,none⟩ (af P4.out.cell)) ?_;go_frame
   refine i8 (d9 (.bool true) .lss (h:=aL _ d5)) ?_;go_frame;go_upto_region 11 with fail
   refine b6<|i5 rfl<|i8 (d8 ((.agg #[.int .i64 ((N:Nat):Int),.slice (some ⟨ob,oo,none⟩) N oc,.slice (some ⟨rb,ro,none⟩) N rc])) ⟨w.heap.size,0,none⟩ (bh Uf.out.cell Ug.out.cell Uh.out.cell))<|i5 rfl<|i4 rfl ?_;go_frame
   have RPo:=RP;refine d4 38 (dN 50 _ _ _ _ rfl rfl rfl rfl (Ue _ _)) ?_;refine (D2 aZ bn (Cm.Gr.fW HG.out) cN.out vw.out Ui.out iH).mono ?_;rintro e1 Uj ⟨uv,rfl,oV,hb⟩;have hpg:=P3 RPo.out KO.out.size oV;obtain ⟨ya,yc,cK,-⟩:=(show Rg.Ints _ uv _ from oV.1).shape;refine ⟨_,rfl,?_⟩;go_frame;replace vw:=ι (vw.out.below hb);replace Uf:=ι (Uf.out.below hb);replace Ug:=ι (Ug.out.below hb);replace Uh:=ι (Uh.out.below hb);replace Ui:=ι (Ui.out.below hb);replace P4:=ι (P4.out.below hb);replace RP:=ι (RP.out.below hb);replace KO:=ι (Rg.acc KO.out hb);clear hb;refine i8 (Rg.aC _ _ _ rfl uv rfl (dI Uj _ ⟨_,_,_,cK⟩)) ?_;go_frame;obtain ⟨a9,c9,X9,r1,r2,r3⟩:=RP.out.SU KO.out.size hpg ⟨_,_,_,cK⟩ (by rw [N9.out]; omega) 22
   refine i8 (Rg.aP _ _ _ rfl rfl rfl (by rw [N9.out] at r1; exact r1))<|i5 rfl ?_;go_frame
   have K6:=ι (r3 (Nat.le_refl _) KO.out)
   have RP6:=ι (show fe w3.heap.size X9 (.slice a9 (k+1) c9) (((ig N O R).take (k+1)).map Ma.ah) by
    have e5:((ig N O R).take (k+1)).map Ma.ah=((ig N O R).take k).map Ma.ah++[Ma.ah (kH N O R N 0 (Ma.aR N) k)]:=by
     rw [List.take_succ_eq_append_getElem HKU.out,List.map_append];simp [ig]
    rw [e5];rw [N9.out] at r2
    exact r2)
   clear r1 r2 r3;go_upto_region 10 with fail
   refine b6<|i4 rfl<|i8 (d9 (.int .i64 (((k+1):Nat):Int)) .add (h:=bI _ (by omega) (by omega)))<|i4 rfl ?_;go_frame
   go_wp2
   go_roundw
   case rel=>exact ⟨k+1,by go_num,bd.out,RP6,K6⟩
   case measure=>simp [intOf]; have:=bd.out; omega

theorem Uk (args:Array Value) (w:World):(callFunc 56 args).run Tryz.prog w=.ok (.enter 56 args) w:=by kernel_rfl
theorem Ul (args:Array Value) (w:World):(callFunc 57 args).run Tryz.prog w=.ok (.enter 57 args) w:=by kernel_rfl
def pz (q o:List Nat) (xi m:Nat):Nat:=(List.range m).foldl (fun p l=>if ap q (o.getD l 0)=xi then l else p) 0
theorem ly (q o:List Nat) (xi m:Nat):pz q o xi (m+1)=if ap q (o.getD m 0)=xi then m else pz q o xi m:=by
 unfold pz; rw [List.range_succ,List.foldl_append]; rfl
theorem Ea (q o:List Nat) (xi:Nat):∀ m,0<m→pz q o xi m<m
 | 0,h=>absurd h (Nat.lt_irrefl 0)
 | m+1,_=>by
  rw [ly]
  split
  ·omega
  ·by_cases e:m=0
   ·subst e; exact Nat.zero_lt_one
   ·have:=Ea q o xi m (by omega); omega
theorem Ki (N:Nat) (O:List (List Nat)) (R:List (List (List Nat))) (x:List Nat) (m i:Nat) (q:List Nat):vu N O R x (m+1) i q=(O.getD i []).countP (fun y=>decide (ap q y<ap x i))*bQ O N m+vu N O R x m (i+1) (Ma.aj ((R.getD i []).getD (pz q (O.getD i []) (ap x i) (O.getD i []).length) []) q):=rfl
theorem Eb (hg:∀ s∈gs,Gd N s) (h:ar N (Gr N (·∈gs)) O R) {x:List Nat} (hx:Gr N (·∈gs) x):∃ k,∃ hk:k<(ig N O R).length,(ig N O R)[k]=x∧vu N O R x N 0 (Ma.aR N)=k:=by
 obtain ⟨k,hk,e⟩:=List.getElem_of_mem (((sP hg h).2 x).2 hx);exact ⟨k,hk,e,by rw [← e]; exact T8 (Cm.Gr.fW hg) h hk⟩
theorem Ec (aZ:1≤N) (bn:N≤12) (hg:∀ s∈gs,Gd N s) (bH:ar N (Gr N (·∈gs)) O R) {x:List Nat} {w:World} (h:bZ w ov rv (O.map Ma.ah) (R.map (List.map Ma.ah))) (hx:Rg.Ints w xv (Ma.ah x)) (gx:Gd N x) :
  Calls Tryz.prog 32 #[.agg #[.int .i64 ((N:Nat):Int),ov,rv],xv] w fun e w'=>∃ (r:Nat) (c:Int),e=.returned (.tuple #[.int .i64 ((r:Nat):Int),.int .i64 c])∧((¬ Gr N (·∈gs) x∧c=18)∨(Gr N (·∈gs) x∧c=0∧r=vu N O R x N 0 (Ma.aR N)))∧Below w.heap.size w w':=by
 obtain ⟨ob,oo,oc,rb,ro,rc,rfl,rfl,-,-⟩:=eV bH h (i:=0) aZ;have HH:=ι (Cm.Gr.fW hg);have HG:=ι hg;have cN:=ι bH;have GX:=ι gx;have Um:=ι (Hb aZ (by omega:N≤64) hg bH gx);have CE:=ι h;have NX:=ι (b_.mk hx);have K:=ι (Below.refl w.heap.size w);obtain ⟨xb,xo,xc,rfl,FE⟩:=NX.out.at gx.2 aZ;obtain ⟨b,hb⟩:∃ b,Hid (decide ((((ve N O R x).1:Nat):Int)=((N:Nat):Int))=b):=⟨_,ι rfl⟩;have HB:=hb;clear hb;have bw:=ι ((IA Um.out).trans HB.out);have XD:=ι (MX HH.out bH gx);clear h bH hx FE hg gx
 go_enter Tryz.func32,Tryz.ntmps32
 go_upto_region 0 with fail;refine b6 ?_;have bG:=jA w (.int .i64 ((N:Nat):Int)) (.slice (some ⟨ob,oo,none⟩) N oc) (.slice (some ⟨rb,ro,none⟩) N rc);refine i8 (Rg.ba _ _ rfl rfl) ?_;go_frame;have hb:=(Below.refl w.heap.size w).alloc (Nat.le_refl _) (.cells #[.int .i64 ((N:Nat):Int),.slice (some ⟨ob,oo,none⟩) N oc,.slice (some ⟨rb,ro,none⟩) N rc] 54);generalize w.alloc (.cells #[.int .i64 ((N:Nat):Int),.slice (some ⟨ob,oo,none⟩) N oc,.slice (some ⟨rb,ro,none⟩) N rc] 54)=w1 at *;replace CE:=ι (CE.out.below hb);replace NX:=ι (NX.out.below hb);replace K:=ι (Rg.acc K.out hb);clear hb;have A0:=ι bG.1;have A1:=ι bG.2.1;have A2:=ι bG.2.2;clear bG
 refine i4 rfl<|i4 rfl ?_;go_frame
 go_upto_region 1 with fail
 refine b6<|i8 (d8 ((.agg #[.int .i64 ((N:Nat):Int),.slice (some ⟨ob,oo,none⟩) N oc,.slice (some ⟨rb,ro,none⟩) N rc])) ⟨w.heap.size,0,none⟩ (bh A0.out.cell A1.out.cell A2.out.cell))<|i5 rfl ?_;go_frame
 refine d4 19 (aD 56 _ _ _ rfl rfl rfl (Uk _ _)) ?_;refine (yK (n:=((N:Nat):Int)) (xl:=Ma.ah x) CE.out NX.out.i).mono ?_;rintro e1 w2 ⟨rfl,hb⟩;rw [Um.out];refine ⟨_,rfl,?_⟩;go_frame;replace CE:=ι (CE.out.below hb);replace NX:=ι (NX.out.below hb);replace A0:=ι (A0.out.below hb);replace A1:=ι (A1.out.below hb);replace A2:=ι (A2.out.below hb);replace K:=ι (Rg.acc K.out hb);clear hb;refine i4 rfl ?_;go_frame;go_upto_region 2 with fail
 refine b6<|i4 rfl<|i8 (d9 (.bool false) .neq (h:=ax _ d6)) ?_;go_frame
 go_upto_region 4 with fail
 refine b6<|i8 (d8 ((.agg #[.int .i64 ((N:Nat):Int),.slice (some ⟨ob,oo,none⟩) N oc,.slice (some ⟨rb,ro,none⟩) N rc])) ⟨w.heap.size,0,none⟩ (bh A0.out.cell A1.out.cell A2.out.cell)) ?_;go_frame
 refine d4 25 (aq 49 _ _ rfl rfl (G2 _ _)) ?_;refine (nJ aZ bn HH.out cN.out CE.out).mono ?_;rintro e1 w3 ⟨g,rfl,dn,-,hb⟩;refine ⟨_,rfl,?_⟩;go_frame;replace CE:=ι (CE.out.below hb);replace NX:=ι (NX.out.below hb);replace A0:=ι (A0.out.below hb);replace A1:=ι (A1.out.below hb);replace A2:=ι (A2.out.below hb);replace K:=ι (Rg.acc K.out hb);clear hb;have SZ:=ι (dn)
 refine i3 (.tuple #[.slice (some ⟨g,0,none⟩) (N+1) (N+1),.bool true]) rfl<|i8 (f8 (.slice (some ⟨g,0,none⟩) (N+1) (N+1)))<|i8 (f8 (.bool true))<|i5 rfl<|i7 rfl ?_;go_frame
 clear dn;go_upto_region 5 with fail
 refine b6<|i7 rfl<|i8 (bE _ _ true rfl rfl) ?_;go_frame
 go_upto_region 7 with fail
 refine b6<|i8 (d8 ((.agg #[.int .i64 ((N:Nat):Int),.slice (some ⟨ob,oo,none⟩) N oc,.slice (some ⟨rb,ro,none⟩) N rc])) ⟨w.heap.size,0,none⟩ (bh A0.out.cell A1.out.cell A2.out.cell))<|i5 rfl ?_;go_frame
 refine d4 33 (aD 57 _ _ _ rfl rfl rfl (Ul _ _)) ?_;refine (Nc (n:=((N:Nat):Int)) (xl:=Ma.ah x) CE.out NX.out.i).mono ?_;rintro e1 w4 ⟨rfl,hb⟩;rw [bw.out,Um.out];refine ⟨_,rfl,?_⟩;go_frame;replace CE:=ι (CE.out.below hb);replace NX:=ι (NX.out.below hb);replace A0:=ι (A0.out.below hb);replace A1:=ι (A1.out.below hb);replace A2:=ι (A2.out.below hb);replace SZ:=ι (SZ.out.below hb);replace K:=ι (Rg.acc K.out hb);clear hb
 refine i3 (.tuple #[.bool b,.int .i64 0]) rfl<|i8 (f8 (.bool b))<|i8 (f8 (.int .i64 0))<|i7 rfl<|i4 rfl ?_;go_frame
 cases b with
 | false =>
  go_upto_region 8 with fail
  refine b6<|i7 rfl<|i8 (bE _ _ false rfl rfl) ?_;go_frame
  go_upto_region 9 with fail
  refine b6<|i4 rfl<|i4 rfl ?_;go_frame
  have Ci:=ι (show ¬ Gr N (·∈gs) x from fun hg=>by
   have h1:=XD.out.2 hg;have h2:=of_decide_eq_false HB.out
   omega)
  go_wp2
  go_ret2
  exact ⟨0,18,rfl,.inl ⟨Ci.out,rfl⟩,K.out⟩
 | true =>
  go_upto_region 8 with fail
  refine b6<|i7 rfl<|i8 (bE _ _ true rfl rfl) ?_;go_frame
  have QO:=ι (show Gr N (·∈gs) x from XD.out.1 (by have:=of_decide_eq_true HB.out; omega));obtain ⟨kx,P5,-,vt⟩:=Eb HG.out cN.out QO.out;obtain ⟨TT,Un⟩:∃ t,Hid (vu N O R x N 0 (Ma.aR N)=t):=⟨_,ι rfl⟩
  have hTB:TT<8916100448257:=by
   rw [← Un.out,vt]
   have h1:(ig N O R).length=bQ O N N:=by simp [ig]
   have h2:=uh bn HH.out cN.out (Nat.le_refl N);omega
  clear vt P5;go_upto_region 10 with fail
  refine b6<|i4 rfl ?_;go_frame
  go_upto_region 11 with fail
  refine b6<|i8 (g8 (dD _ _))<|i8 (d8 (.int .i64 ((N:Nat):Int)) ⟨w.heap.size,0,none⟩ (af A0.out.cell)) ?_;go_frame
  refine d4 40 (aq 58 _ _ rfl rfl (Fi _ _)) ?_;refine (oB N w4 (by omega)).mono ?_;rintro e1 NK ⟨T_,rfl,lG,hb⟩;refine ⟨_,rfl,?_⟩;go_frame;replace CE:=ι (CE.out.below hb);replace NX:=ι (NX.out.below hb);replace A0:=ι (A0.out.below hb);replace A1:=ι (A1.out.below hb);replace A2:=ι (A2.out.below hb);replace SZ:=ι (SZ.out.below hb);replace K:=ι (Rg.acc K.out hb);clear hb;have NQ:=ι (b_.mk lG.1);refine i3 (T_) rfl ?_;go_frame;clear lG;go_upto_region 12 with fail
  refine b6<|i4 rfl ?_;go_frame
  have K1:=ι (Below.refl NK.heap.size NK);have K0:=K;clear K;have Nw:=ι (Cm.dX N);go_wp2
  go_loopw [11,12,13] (fun rv qv iv wr=>∃ (i r:Nat) (q:List Nat),rv=.int .i64 ((r:Nat):Int)∧iv=.int .i64 ((i:Nat):Int)∧i≤N∧Hid (b_ wr qv (Ma.ah q))∧Hid (Gd N q)∧Hid (r+vu N O R x (N - i) i q=TT)∧Hid (Below NK.heap.size NK wr)) (fun _ _ iv _=>N - (intOf iv).toNat)
  case atStart=>exact ⟨0,0,_,rfl,rfl,Nat.zero_le _,NQ,Nw,ι (by rw [Nat.zero_add,Nat.sub_zero]; exact Un.out),K1⟩
  case round =>
   clear NQ Nw K1;obtain ⟨i,r,q,rfl,rfl,hi,NQ,GQ,iM,KO⟩:=hrel;generalize wr=wA at *;replace CE:=ι (CE.out.below KO.out);replace NX:=ι (NX.out.below KO.out);replace A0:=ι (A0.out.below KO.out);replace A1:=ι (A1.out.below KO.out);replace A2:=ι (A2.out.below KO.out);replace SZ:=ι (SZ.out.below KO.out);obtain ⟨qb,qo,qc,rfl,yY⟩:=NQ.out.at GQ.out.2 aZ;clear yY
   by_cases aB:i<N
   case neg =>
    obtain rfl:N=i:=by omega
    go_upto_region 13 with fail
    refine b6<|i4 rfl<|i8 (g8 (dD _ _))<|i8 (d8 (.int .i64 ((N:Nat):Int)) ⟨w.heap.size,0,none⟩ (af A0.out.cell))<|i8 (d9 (.bool false) .lss (h:=aL _ d6)) ?_;go_frame
    go_upto_region 25 with fail
    refine b6<|i4 rfl<|i4 rfl<|i4 rfl ?_;go_frame
    have HF:=ι (show r=TT by
     have h5:=iM.out;rw [Nat.sub_self] at h5
     exact h5)
    go_wp2
    go_ret2
    exact ⟨r,0,rfl,.inr ⟨QO.out,rfl,HF.out.trans Un.out.symm⟩,K0.out.trans (KO.out.mono K0.out.size)⟩
   case pos =>
    obtain ⟨m,hm⟩:∃ m,N - i=m+1:=⟨N - i - 1,by omega⟩
    have Ke:N - (i+1)=m:=by omega
    rw [hm,Ki] at iM;obtain ⟨s,hs⟩:∃ s:Nat,Hid (bQ O N m=s):=⟨_,ι rfl⟩;have bw:=ι aB;obtain ⟨os,qF⟩:∃ l,Hid (O.getD i []=l):=⟨_,ι rfl⟩;obtain ⟨rl,mT⟩:∃ l,Hid (R.getD i []=l):=⟨_,ι rfl⟩;have Bj:=ι (lx HH.out cN.out aB GQ.out);have N6:=ι (List.length_pos_of_mem (pP HH.out cN.out aB));have mJ:=ι (gS HH.out cN.out aB);have nA:=ι (cN.out.len i aB);obtain ⟨S6,S7,Pj,S8,S9,S_,e1,e2,⟨ua,uc,qU,mg⟩,⟨va,vc,G9,jP⟩⟩:=eV cN.out CE.out aB;simp only [Value.slice.injEq,Option.some.injEq,Addr.mk.injEq,and_true,true_and] at e1 e2;obtain ⟨⟨rfl,rfl⟩,rfl⟩:=e1;obtain ⟨⟨rfl,rfl⟩,rfl⟩:=e2;rw [qF.out] at qU mg G9 jP Bj N6 mJ nA;rw [mT.out] at jP nA;rw [qF.out,hs.out,mT.out] at iM;have G_:0<os.length:=N6.out;have oO:os.length≤N - i:=mJ.out;obtain ⟨ub,uo,Ua,e1,j8⟩:=(b_.mk mg).at (D:=os.length) rfl G_
    simp only [Value.slice.injEq,true_and] at e1;obtain ⟨rfl,rfl⟩:=e1;obtain ⟨xi,eB⟩:∃ z,Hid (ap x i=z):=⟨_,ι rfl⟩;rw [eB.out] at iM;obtain ⟨xb',xo',xc',e1,FE⟩:=NX.out.at (D:=N) GX.out.2 aZ;simp only [Value.slice.injEq,Option.some.injEq,Addr.mk.injEq,and_true,true_and] at e1;obtain ⟨⟨rfl,rfl⟩,rfl⟩:=e1;have CX:=ι (show CL wA xb (xo+i) (.int .i64 ((xi:Nat):Int)) from eB.out▸FE i aB);have CO:=ι qU;have NO:=ι (b_.mk mg);have CR:=ι G9;have RR:=ι (lI.mk jP)
    have CS:=ι (show CL wA g (0+(i+1)) (.int .i64 ((s:Nat):Int)) from CL.mk (by
     rw [Nat.zero_add,SZ.out.2.1 (i+1) (by omega)];unfold mh
     rw [if_pos (Nat.zero_le _),Ke,hs.out]) SZ.out.1)
    clear qU mg G9 jP j8 FE;obtain ⟨ct,XE⟩:∃ c,Hid (os.countP (fun y=>decide (ap q y<xi))=c):=⟨_,ι rfl⟩;have XF:=ι (show r+ct*s≤TT by have h5:=iM.out; rw [XE.out] at h5; omega);go_upto_region 13 with fail
    refine b6<|i4 rfl<|i8 (g8 (dD _ _))<|i8 (d8 (.int .i64 ((N:Nat):Int)) ⟨w.heap.size,0,none⟩ (af A0.out.cell))<|i8 (d9 (.bool true) .lss (h:=aL _ d5)) ?_;go_frame
    go_upto_region 15 with fail
    refine b6<|i4 rfl ?_;go_frame
    go_upto_region 16 with fail
    refine b6<|i4 rfl ?_;go_frame
    have K2:=ι (Below.refl wA.heap.size wA);have Fp:=ι (show r+(os.take 0).countP (fun y=>decide (ap q y<xi))*s=r by rw [List.take_zero]; simp);go_wp2
    go_loopw [11,14,15] (fun rv pv av wr=>∃ a r1:Nat,rv=.int .i64 ((r1:Nat):Int)∧pv=.int .i64 ((pz q os xi a:Nat):Int)∧av=.int .i64 ((a:Nat):Int)∧a≤os.length∧Hid (r+(os.take a).countP (fun y=>decide (ap q y<xi))*s=r1)∧Hid (Below wA.heap.size wA wr)) (fun _ _ av _=>os.length - (intOf av).toNat)
    case atStart=>exact ⟨0,r,rfl,rfl,rfl,Nat.zero_le _,Fp,K2⟩
    case round =>
     clear K2 Fp;obtain ⟨a,r1,rfl,rfl,rfl,ha,Pq,KR⟩:=hrel;generalize wr=wB at *;have Kf:=ι (CE.out.below KR.out);have XG:=ι (NX.out.below KR.out);have Kg:=ι (A0.out.below KR.out);have xX:=ι (A1.out.below KR.out);have D3:=ι (A2.out.below KR.out);have jn:=ι (SZ.out.below KR.out);have Bk:=ι (NQ.out.below KR.out);have xY:=ι (CO.out.below KR.out);have Ha:=ι (NO.out.below KR.out);have D4:=ι (CR.out.below KR.out);have D5:=ι (RR.out.below KR.out);have Ed:=ι (CX.out.below KR.out);have Uo:=ι (CS.out.below KR.out);have D6:=ι (Rg.acc KO.out KR.out);obtain ⟨pj,yZ⟩:∃ j,Hid (pz q os xi a=j):=⟨_,ι rfl⟩;rw [yZ.out]
     by_cases PV:a<os.length
     case neg =>
      obtain rfl:a=os.length:=by omega
      have Dk:pj<os.length:=by rw [← yZ.out]; exact Ea _ _ _ _ G_
      have wS:=ι Dk;go_upto_region 17 with fail
      refine b6<|i4 rfl<|i8 (g8 (cq _ _))<|i8 (d8 (.slice (some ⟨ob,oo,none⟩) N oc) ⟨w.heap.size,1,none⟩ (Rg.ae _ _ Tryz.underlying51 xX.out.cell))<|i4 rfl ?_;go_frame
      refine i8 (ag bF _ _ rfl ob (oo) (N) oc (i) rfl rfl bw.out)<|i8 (d8 (.slice (some ⟨ub,uo,none⟩) os.length uc) ⟨ob,oo+i,none⟩ (Rg.ae _ _ Tryz.underlying25 xY.out.cell))<|i8 (e8 Tryz.underlying25)<|i8 (d9 (.bool false) .lss (h:=aL _ d6)) ?_;go_frame
      have GR:=ι (show Gd N (rl.getD pj []) by rw [← mT.out]; exact HH.out.gd _ (nQ cN.out bw.out (by rw [qF.out]; exact wS.out)).1.1);obtain ⟨vb,vo,ya,yc,e1,cV,eJ,dA⟩:=cQ D5.out.r (i:=pj) (by rw [List.length_map,nA.out]; exact Dk);subst e1
      have e5:(rl.map Ma.ah)[pj]'(by rw [List.length_map,nA.out]; exact Dk)=Ma.ah (rl.getD pj []):=by rw [List.getElem_map,List.getD_eq_getElem?_getD,List.getElem?_eq_getElem]; rfl
      rw [e5] at eJ dA;obtain ⟨y,hy⟩:∃ y,Hid (rl.getD pj []=y):=⟨_,ι rfl⟩;rw [hy.out] at eJ dA GR;have CY:=ι (CL.mk eJ cV);have NY:=ι (b_.mk dA);clear eJ cV dA e5;go_upto_region 24 with fail
      refine b6<|i8 (g8 (dE _ _))<|i8 (d8 (.slice (some ⟨rb,ro,none⟩) N rc) ⟨w.heap.size,2,none⟩ (Rg.ae _ _ Tryz.underlying52 D3.out.cell))<|i4 rfl<|i8 (ag bV _ _ rfl rb (ro) (N) rc (i) rfl rfl bw.out) ?_;go_frame
      refine i8 (d8 (.slice (some ⟨vb,vo,none⟩) os.length vc) ⟨rb,ro+i,none⟩ (Rg.ae _ _ Tryz.underlying22 D4.out.cell))<|i4 rfl<|i8 (ag aE _ _ rfl vb (vo) (os.length) vc (pj) rfl rfl wS.out)<|i8 (d8 (.slice ya (Ma.ah y).length yc) ⟨vb,vo+pj,none⟩ (Rg.ae _ _ Tryz.underlying26 CY.out.cell))<|i5 rfl ?_;go_frame
      refine d4 97 (aD 26 _ _ _ rfl rfl rfl (k8 _ _)) ?_;refine (iP _ _ y q wB NY.out.i Bk.out.i (fun z hz=>by rw [GQ.out.2]; exact kB GR.out hz) (by rw [GR.out.2]; omega)).mono ?_;rintro e1 XH ⟨mv,rfl,dL,hb⟩;refine ⟨_,rfl,?_⟩;go_frame;replace Kf:=ι (Kf.out.below hb);replace XG:=ι (XG.out.below hb);replace Kg:=ι (Kg.out.below hb);replace xX:=ι (xX.out.below hb);replace D3:=ι (D3.out.below hb);replace jn:=ι (jn.out.below hb);replace Bk:=ι (Bk.out.below hb);replace xY:=ι (xY.out.below hb);replace Ha:=ι (Ha.out.below hb);replace D4:=ι (D4.out.below hb);replace D5:=ι (D5.out.below hb);replace Ed:=ι (Ed.out.below hb);replace Uo:=ι (Uo.out.below hb);replace CY:=ι (CY.out.below hb);replace NY:=ι (NY.out.below hb);replace D6:=ι (Rg.acc D6.out hb);clear hb;have NM:=ι (b_.mk dL.1);refine i3 (mv) rfl ?_;go_frame
      go_upto_region 14 with fail
      refine b6<|i4 rfl<|i8 (d9 (.int .i64 (((i+1):Nat):Int)) .add (h:=bI _ (by omega) (by omega)))<|i4 rfl ?_;go_frame
      have GQN:=ι (Cm.a_ GR.out GQ.out)
      have uZ:=ι (show r1+vu N O R x (N - (i+1)) (i+1) (Ma.aj y q)=TT by
       have h5:=iM.out;have h6:=Pq.out;rw [List.take_length] at h6;rw [yZ.out,hy.out,← Nat.add_assoc,h6] at h5;rw [Ke]
       exact h5)
      go_wp2
      go_roundw
      case rel=>exact ⟨i+1,r1,_,rfl,by go_num,bw.out,NM,GQN,uZ,D6⟩
      case measure=>simp [intOf]; have:=bw.out; omega
     case pos =>
      have mZ:=ι PV;obtain ⟨y,hy⟩:∃ y,Hid (os.getD a 0=y):=⟨_,ι rfl⟩;have Kh:=ι (show y<N by rw [← hy.out,Bj.out.at mZ.out]; exact Bj.out.lt _ (List.getElem_mem _));obtain ⟨qy,Bl⟩:∃ z',Hid (ap q y=z'):=⟨_,ι rfl⟩;obtain ⟨ub',uo',Ua,e1,j8⟩:=Ha.out.at (D:=os.length) rfl G_;simp only [Value.slice.injEq,Option.some.injEq,Addr.mk.injEq,and_true,true_and] at e1;obtain ⟨⟨rfl,rfl⟩,rfl⟩:=e1;obtain ⟨Uc,Ud,qc',e1,yY⟩:=Bk.out.at (D:=N) GQ.out.2 aZ;simp only [Value.slice.injEq,Option.some.injEq,Addr.mk.injEq,and_true,true_and] at e1;obtain ⟨⟨rfl,rfl⟩,rfl⟩:=e1;have y4:=ι (show CL wB ub (uo+a) (.int .i64 ((y:Nat):Int)) from hy.out▸j8 a PV);have y5:=ι (show CL wB qb (qo+y) (.int .i64 ((qy:Nat):Int)) from Bl.out▸yY y Kh.out);clear j8 yY
      have mU:=ι (show r+(os.take (a+1)).countP (fun y=>decide (ap q y<xi))*s=r1+(if qy<xi then s else 0) by
       rw [uL mZ.out,Nat.add_mul,← Nat.add_assoc,Pq.out,hy.out,Bl.out]
       by_cases e:qy<xi <;> simp [e])
      have qO:r1+(if qy<xi then s else 0)≤TT:=by
       rw [← mU.out];refine Nat.le_trans (Nat.add_le_add_left (Nat.mul_le_mul_right s ?_) r) XF.out;rw [← XE.out];exact (List.take_sublist _ _).countP_le
      go_upto_region 17 with fail
      refine b6<|i4 rfl<|i8 (g8 (cq _ _))<|i8 (d8 (.slice (some ⟨ob,oo,none⟩) N oc) ⟨w.heap.size,1,none⟩ (Rg.ae _ _ Tryz.underlying51 xX.out.cell))<|i4 rfl ?_;go_frame
      refine i8 (ag bF _ _ rfl ob (oo) (N) oc (i) rfl rfl bw.out)<|i8 (d8 (.slice (some ⟨ub,uo,none⟩) os.length uc) ⟨ob,oo+i,none⟩ (Rg.ae _ _ Tryz.underlying25 xY.out.cell))<|i8 (e8 Tryz.underlying25)<|i8 (d9 (.bool true) .lss (h:=aL _ d5)) ?_;go_frame
      go_upto_region 19 with fail
      refine b6<|i5 rfl<|i8 (g8 (cq _ _))<|i8 (d8 (.slice (some ⟨ob,oo,none⟩) N oc) ⟨w.heap.size,1,none⟩ (Rg.ae _ _ Tryz.underlying51 xX.out.cell))<|i4 rfl ?_;go_frame
      refine i8 (ag bF _ _ rfl ob (oo) (N) oc (i) rfl rfl bw.out)<|i8 (d8 (.slice (some ⟨ub,uo,none⟩) os.length uc) ⟨ob,oo+i,none⟩ (Rg.ae _ _ Tryz.underlying25 xY.out.cell))<|i4 rfl<|i8 (ag aX _ _ rfl ub (uo) (os.length) uc (a) rfl rfl mZ.out)<|i8 (d8 (.int .i64 ((y:Nat):Int)) ⟨ub,uo+a,none⟩ (af y4.out.cell)) ?_;go_frame
      refine i8 (ag bK _ _ rfl qb (qo) (N) qc (y) rfl rfl Kh.out)<|i8 (d8 (.int .i64 ((qy:Nat):Int)) ⟨qb,qo+y,none⟩ (af y5.out.cell))<|i4 rfl ?_;go_frame
      by_cases aJ:qy<xi
      case pos =>
       rw [if_pos aJ] at mU qO;go_upto_region 20 with fail
       refine b6<|i4 rfl<|i5 rfl<|i4 rfl<|i8 (ag bK _ _ rfl xb (xo) (N) xc (i) rfl rfl bw.out) ?_;go_frame
       refine i8 (d8 (.int .i64 ((xi:Nat):Int)) ⟨xb,xo+i,none⟩ (af Ed.out.cell))<|i8 (d9 (.bool true) .lss (h:=aL _ d5)) ?_;go_frame
       go_upto_region 21 with fail
       refine b6<|i4 rfl<|i5 rfl<|i4 rfl<|i8 (d9 (.int .i64 (((i+1):Nat):Int)) .add (h:=bI _ (by omega) (by omega))) ?_;go_frame
       refine i8 (ag aX _ _ rfl g (0) ((N+1)) (N+1) ((i+1)) rfl rfl (Nat.succ_lt_succ bw.out))<|i8 (d8 (.int .i64 ((s:Nat):Int)) ⟨g,0+(i+1),none⟩ (af Uo.out.cell))<|i8 (d9 (.int .i64 (((r1+s):Nat):Int)) .add (h:=bI _ (by omega) (by omega)))<|i4 rfl ?_;go_frame
       by_cases heq:qy=xi
       case pos =>
        have r_:=ι (show pz q os xi (a+1)=a by rw [ly,hy.out,Bl.out,if_pos heq]);go_upto_region 22 with fail
        refine b6<|i4 rfl<|i5 rfl<|i4 rfl<|i8 (ag bK _ _ rfl xb (xo) (N) xc (i) rfl rfl bw.out) ?_;go_frame
        refine i8 (d8 (.int .i64 ((xi:Nat):Int)) ⟨xb,xo+i,none⟩ (af Ed.out.cell))<|i8 (d9 (.bool true) .eql (h:=cJ _ d5)) ?_;go_frame
        go_upto_region 23 with fail
        refine b6<|i4 rfl<|i4 rfl ?_;go_frame
        go_upto_region 18 with fail
        refine b6<|i4 rfl<|i8 (d9 (.int .i64 (((a+1):Nat):Int)) .add (h:=bI _ (by omega) (by omega)))<|i4 rfl ?_;go_frame
        go_wp2
        go_roundw
        case rel=>exact ⟨a+1,r1+s,by go_num,by rw [r_.out],by go_num,mZ.out,mU,KR⟩
        case measure=>simp [intOf]; have:=mZ.out; omega
       case neg =>
        have r_:=ι (show pz q os xi (a+1)=pj by rw [ly,hy.out,Bl.out,if_neg heq,yZ.out]);go_upto_region 22 with fail
        refine b6<|i4 rfl<|i5 rfl<|i4 rfl<|i8 (ag bK _ _ rfl xb (xo) (N) xc (i) rfl rfl bw.out) ?_;go_frame
        refine i8 (d8 (.int .i64 ((xi:Nat):Int)) ⟨xb,xo+i,none⟩ (af Ed.out.cell))<|i8 (d9 (.bool false) .eql (h:=cJ _ d6)) ?_;go_frame
        go_upto_region 18 with fail
        refine b6<|i4 rfl<|i8 (d9 (.int .i64 (((a+1):Nat):Int)) .add (h:=bI _ (by omega) (by omega)))<|i4 rfl ?_;go_frame
        go_wp2
        go_roundw
        case rel=>exact ⟨a+1,r1+s,by go_num,by rw [r_.out],by go_num,mZ.out,mU,KR⟩
        case measure=>simp [intOf]; have:=mZ.out; omega
      case neg =>
       rw [if_neg aJ,Nat.add_zero] at mU qO;go_upto_region 20 with fail
       refine b6<|i4 rfl<|i5 rfl<|i4 rfl<|i8 (ag bK _ _ rfl xb (xo) (N) xc (i) rfl rfl bw.out) ?_;go_frame
       refine i8 (d8 (.int .i64 ((xi:Nat):Int)) ⟨xb,xo+i,none⟩ (af Ed.out.cell))<|i8 (d9 (.bool false) .lss (h:=aL _ d6)) ?_;go_frame
       by_cases heq:qy=xi
       case pos =>
        have r_:=ι (show pz q os xi (a+1)=a by rw [ly,hy.out,Bl.out,if_pos heq]);go_upto_region 22 with fail
        refine b6<|i4 rfl<|i5 rfl<|i4 rfl<|i8 (ag bK _ _ rfl xb (xo) (N) xc (i) rfl rfl bw.out) ?_;go_frame
        refine i8 (d8 (.int .i64 ((xi:Nat):Int)) ⟨xb,xo+i,none⟩ (af Ed.out.cell))<|i8 (d9 (.bool true) .eql (h:=cJ _ d5)) ?_;go_frame
        go_upto_region 23 with fail
        refine b6<|i4 rfl<|i4 rfl ?_;go_frame
        go_upto_region 18 with fail
        refine b6<|i4 rfl<|i8 (d9 (.int .i64 (((a+1):Nat):Int)) .add (h:=bI _ (by omega) (by omega)))<|i4 rfl ?_;go_frame
        go_wp2
        go_roundw
        case rel=>exact ⟨a+1,r1,by go_num,by rw [r_.out],by go_num,mZ.out,mU,KR⟩
        case measure=>simp [intOf]; have:=mZ.out; omega
       case neg =>
        have r_:=ι (show pz q os xi (a+1)=pj by rw [ly,hy.out,Bl.out,if_neg heq,yZ.out]);go_upto_region 22 with fail
        refine b6<|i4 rfl<|i5 rfl<|i4 rfl<|i8 (ag bK _ _ rfl xb (xo) (N) xc (i) rfl rfl bw.out) ?_;go_frame
        refine i8 (d8 (.int .i64 ((xi:Nat):Int)) ⟨xb,xo+i,none⟩ (af Ed.out.cell))<|i8 (d9 (.bool false) .eql (h:=cJ _ d6)) ?_;go_frame
        go_upto_region 18 with fail
        refine b6<|i4 rfl<|i8 (d9 (.int .i64 (((a+1):Nat):Int)) .add (h:=bI _ (by omega) (by omega)))<|i4 rfl ?_;go_frame
        go_wp2
        go_roundw
        case rel=>exact ⟨a+1,r1,by go_num,by rw [r_.out],by go_num,mZ.out,mU,KR⟩
        case measure=>simp [intOf]; have:=mZ.out; omega
end Go.Proofs.YtbngdgfmlmkgiaaGreat

namespace Go.Proofs.YtbngdgfmlmkgiaaGreat
open Go.RowKit
open Go.Proofs
open Go.Proofs.Ob
open Go.Proofs.Cm (Gd Gr ar)
attribute [local irreducible] Go.Calls Go.wpList
theorem zQ (lv xv:Value) (L:List (List Int)) (x:List Int) (w:World) (h:Rg.Rows w lv L) (hx:Rg.Ints w xv x) (hs:DA L) (hL:L.length<1000000) (hm:x∈L) :
  Calls Tryz.prog 25 #[lv,xv] w fun e w'=>∃ (r:Nat) (hr:r<L.length),e=.returned (.int .i64 r)∧L[r]=x∧Below w.heap.size w w':=by
 have hp:=ι (Gk lv xv L x w h hx hs hL);have HS:=ι hs;have HM:=ι hm;have HD:=ι (decide_eq_true hm);clear h hx hs hm
 go_enter Tryz.func25,Tryz.ntmps25
 go_wp2_with (go_at_call 51; refine hp.out.mono ?_; rintro e w' ⟨lo,rfl,hP,hb⟩; rw [HD.out])
 go_ret;obtain ⟨q1,q2⟩:=(hP.mem HS.out).1 HM.out;exact ⟨lo,q1,rfl,q2,hb⟩
structure C4 (W:World) (b1 o1 b2 o2 b3 o3 b4 o4:Nat) (v1 v2 v3 v4:Value):Prop where
 c1:W.cell? ⟨b1,o1,none⟩=some v1
 c2:W.cell? ⟨b2,o2,none⟩=some v2
 c3:W.cell? ⟨b3,o3,none⟩=some v3
 c4:W.cell? ⟨b4,o4,none⟩=some v4
theorem lT {b o:Nat} {u:Value} (h:W.cell? ⟨b,o,none⟩=some u) (hb:Below W.heap.size W X):X.cell? ⟨b,o,none⟩=some u:=(Below.cell (p:=⟨b,o,none⟩) hb (gK h)).trans h
theorem C4.below {b1 o1 b2 o2 b3 o3 b4 o4:Nat} {v3 v4:Value} (h:C4 W b1 o1 b2 o2 b3 o3 b4 o4 v1 v2 v3 v4) (hb:Below W.heap.size W X):C4 X b1 o1 b2 o2 b3 o3 b4 o4 v1 v2 v3 v4 :=
 ⟨lT h.c1 hb,lT h.c2 hb,lT h.c3 hb,lT h.c4 hb⟩
theorem C4.kp {b1 o1 b2 o2 b3 o3 b4 o4:Nat} {v3 v4:Value} (h:C4 W b1 o1 b2 o2 b3 o3 b4 o4 v1 v2 v3 v4) (hk:Rg.Kp M W X) (n1:¬ M b1) (n2:¬ M b2) (n3:¬ M b3) (n4:¬ M b4):C4 X b1 o1 b2 o2 b3 o3 b4 o4 v1 v2 v3 v4 :=
 ⟨sC h.c1 hk n1,sC h.c2 hk n2,sC h.c3 hk n3,sC h.c4 hk n4⟩
structure y6 (W:World) (g m:Nat) (f:Nat→Bool):Prop where
 row:W.rowIs g 4 m (fun i=>.bool (f i))
 lt:g<W.heap.size
theorem y6.below {g:Nat} {f:Nat→Bool} (h:y6 W g m f) (hb:Below W.heap.size W W'):y6 W' g m f:=by
 obtain ⟨c,h1,h2⟩:=h.row;exact ⟨⟨c,(hb.block g h.lt).trans h1,h2⟩,Nat.lt_of_lt_of_le h.lt hb.size⟩
theorem y6.set {W:World} {g m:Nat} {f:Nat→Bool} (h:y6 W g m f) (i:Nat) (b:Bool):y6 (W.setCell ⟨g,i,none⟩ (.bool b)) g m (fun j=>if j=i then b else f j) :=
 ⟨(h.row.set i (.bool b)).congr (fun j _=>by by_cases e:j=i <;> simp [e]),by simpa using h.lt⟩

theorem iO.iff (hg:∀ s∈gs,Gd N s) {st:cF} (h:iO (ak gs) N st) (x:List Nat):x∈st.1↔Gr N (·∈gs) x :=
 ⟨fun hx=>by obtain ⟨i,rfl,_⟩:=h; exact sD i x hx,h.all hg⟩
theorem zR {d:Nat} {A:List (List Nat)} (hg:∀ s∈gs,Gd d s) (hA:mW d gs A) {st:cF} (h:iO (ak gs) d st):A.Perm st.1:=by
 rw [List.perm_ext_iff_of_nodup (lh hA.1) (h.words hg).bi.nd];exact fun x=>(hA.2 x).trans (h.iff hg x).symm
theorem Ee {d:Nat} {A S:List (List Nat)} (hg:∀ s∈gs,Gd d s) (hA:mW d gs A) {st:cF} (h:iO (ak gs) d st) (hp:S.Perm st.1) (hs:(S.map Ma.ah).Pairwise (fun a b=>bB b a=false)):S=A:=by
 refine ue (hp.trans (zR hg hA h).symm) hs (((xu _).1 hA.1).imp fun {a b} gJ=>?_)
 cases e:bB b a with
 | false=>rfl
 | true=>have:=eX gJ e; rw [iN] at this; cases this
theorem Kj {st:cF} {S T:List (List Nat)} (h:S.Perm T):gT st S=gT st T:=by
 funext i; unfold gT; rw [h.countP_eq]
theorem x9 {w:World} {b o c:Nat} {T:List (List Int)} (h:Rg.Rows w (.slice (some ⟨b,o,none⟩) n c) T) {i:Nat} (hi:i<T.length):∃ ua uc,b<w.heap.size∧w.cell? ⟨b,o+i,none⟩=some (.slice ua T[i].length uc)∧Rg.Ints w (.slice ua T[i].length uc) T[i]:=by
 obtain ⟨b',o',ua,uc,e,h1,h2,h3⟩:=cQ h hi;simp only [Option.some.injEq,Addr.mk.injEq,and_true] at e;obtain ⟨rfl,rfl⟩:=e;exact ⟨ua,uc,h1,h2,h3⟩
end Go.Proofs.YtbngdgfmlmkgiaaGreat

namespace Go.Proofs.YtbngdgfmlmkgiaaGreat
open Go.RowKit
open Go.Proofs
open Go.Proofs.Ob
open Go.Proofs.Cm (Gd Gr ar ap)
theorem Kk (n:Nat):∀ a,a<n→(lets n)[2*a]?=some ((a:Int)+1)∧(lets n)[2*a+1]?=some (-(a:Int) - 1):=by
 induction n with
 | zero=>exact fun a h=>absurd h (Nat.not_lt_zero a)
 | succ n ih =>
  intro a h;have hl:=fT n;rw [lq]
  by_cases e:a=n
  ·subst e
   rw [List.getElem?_append_right (by omega),List.getElem?_append_right (by omega),hl,Nat.sub_self,show 2*a+1 - 2*a=1 by omega];exact ⟨rfl,rfl⟩
  ·rw [List.getElem?_append_left (by omega),List.getElem?_append_left (by omega)]
   exact ih a (by omega)
def Hf (k:Nat):Int:=if k % 2=1 then -((k / 2:Nat):Int) else ((k / 2:Nat):Int)
theorem Hh (h:m<(ak gs).length):(ak gs)[m].2=Hf (m+2)∧(ak gs)[m].1=j5 gs (Hf (m+2)):=by
 have e2:(ak gs)[m].2=Hf (m+2):=by
  have e3:(lets gs.length)[m]?=some (ak gs)[m].2:=by rw [← xS,List.getElem?_map,List.getElem?_eq_getElem h]; rfl
  have aJ:m<2*gs.length:=by rw [nM] at h; exact h
  obtain ⟨g1,g2⟩:=Kk gs.length (m / 2) (by omega);unfold Hf
  by_cases e:m % 2=0
  ·rw [show 2*(m / 2)=m by omega,e3] at g1
   rw [if_neg (by omega),Option.some.inj g1];omega
  ·rw [show 2*(m / 2)+1=m by omega,e3] at g2
   rw [if_pos (by omega),Option.some.inj g2];omega
 exact ⟨e2,by rw [← e2]; exact ((ug (List.getElem_mem h)).2.2.2).symm⟩
def qQ (L:List (List Nat)) (st:cF):List Nat:=st.1.map fun x=>L.idxOf x
def sS (L:List (List Nat)) (st:cF) (j:Nat):Bool:=decide (L.getD j []∈st.1)
def pU (L:List (List Nat)) (st:cF) (j:Nat):List Int:=if L.getD j []∈st.1 then bj st (L.getD j []) else []
theorem Kl {st:cF} (hl:st.2.length=st.1.length) {x:List Nat} {u:List Int} (hx:x∈st.1):bj (st.1++[y],st.2++[u]) x=bj st x:=by
 unfold bj;have h1:=List.idxOf_lt_length_of_mem hx;show (st.2++[u]).getD ((st.1++[y]).idxOf x) []=_;rw [List.idxOf_append,if_pos hx,List.getD_eq_getElem?_getD,List.getElem?_append_left (by omega),← List.getD_eq_getElem?_getD]
theorem Kn {st:cF} (hl:st.2.length=st.1.length) {u:List Int} (hy:y∉st.1):bj (st.1++[y],st.2++[u]) y=u:=by
 unfold bj;show (st.2++[u]).getD ((st.1++[y]).idxOf y) []=_;rw [List.idxOf_append,if_neg hy,List.getD_eq_getElem?_getD];simp [← hl]
theorem N_ {α:Type} {l:List α} (h:l.Nodup) {i:Nat} (hi:i<l.length) (hj:j<l.length) (e:l[i]=l[j]):i=j:=by
 rcases Nat.lt_trichotomy i j with h1 | h1 | h1
 ·exact absurd e (List.pairwise_iff_getElem.1 h i j hi hj h1)
 ·exact h1
 ·exact absurd e.symm (List.pairwise_iff_getElem.1 h j i hj hi h1)
theorem x_ {L:List (List Nat)} (hy:y∈L):L.getD (L.idxOf y) []=y:=by
 have:=List.idxOf_lt_length_of_mem hy;rw [List.getD_eq_getElem?_getD,List.getElem?_eq_getElem this,List.getElem_idxOf]; rfl
theorem pA {L:List (List Nat)} (nd:L.Nodup) (hy:y∈L) (hj:j<L.length) (e:L.getD j []=y):j=L.idxOf y:=by
 have h1:=List.idxOf_lt_length_of_mem hy;rw [List.getD_eq_getElem?_getD,List.getElem?_eq_getElem hj] at e;exact N_ nd hj h1 (show L[j]=L[L.idxOf y] by rw [List.getElem_idxOf]; exact e)
theorem Ef {L:List (List Nat)} (nd:L.Nodup) {st:cF} {u:List Int} (hy:y∈L) (hj:j<L.length):sS L (st.1++[y],st.2++[u]) j=if j=L.idxOf y then true else sS L st j:=by
 unfold sS
 by_cases e:j=L.idxOf y
 ·rw [if_pos e,e,x_ hy]; simp
 ·rw [if_neg e]
  have:L.getD j []≠y:=fun h=>e (pA nd hy hj h);simp only [List.mem_append,List.mem_singleton,this,or_false]
theorem Eg {L:List (List Nat)} (nd:L.Nodup) {st:cF} (hl:st.2.length=st.1.length) {u:List Int} (hy:y∈L) (hn:y∉st.1) (hj:j<L.length):pU L (st.1++[y],st.2++[u]) j=if j=L.idxOf y then u else pU L st j:=by
 unfold pU
 by_cases e:j=L.idxOf y
 ·rw [if_pos e,e,x_ hy,if_pos (by simp),Kn hl hn]
 ·rw [if_neg e]
  have h1:L.getD j []≠y:=fun h=>e (pA nd hy hj h)
  by_cases h2:L.getD j []∈st.1
  ·rw [if_pos h2,if_pos (List.mem_append_left _ h2),Kl hl h2]
  ·rw [if_neg h2,if_neg (fun h=>by
    rcases List.mem_append.1 h with h | h
    ·exact h2 h
    ·exact h1 (List.mem_singleton.1 h))]
theorem IU (L:List (List Nat)) (st:cF) (y:List Nat) (u:List Int):qQ L (st.1++[y],st.2++[u])=qQ L st++[L.idxOf y]:=by unfold qQ; simp
theorem eD (L:List (List Nat)) (st:cF):(qQ L st).length=st.1.length:=by unfold qQ; simp
theorem Oa {L:List (List Nat)} (hg:∀ s∈gs,Gd N s) (hL:mW N gs L) {st:cF} (h:iO (ak gs) N st):(List.range L.length).map (pU L st)=L.map (bj st):=by
 refine List.ext_getElem (by simp) fun j h1 h2=>?_;rw [List.getElem_map,List.getElem_range,List.getElem_map]
 have hj:j<L.length:=by simpa using h1
 unfold pU
 have e:L.getD j []=L[j]:=by rw [List.getD_eq_getElem?_getD,List.getElem?_eq_getElem hj]; rfl
 rw [e,if_pos (h.all hg ((hL.2 _).1 (List.getElem_mem hj)))]
theorem Oc {L:List (List Nat)} (hg:∀ s∈gs,Gd N s) (hL:mW N gs L) {i:Nat} (hi:i<(aI (ak gs) N i).1.length) (k:Nat):(∀ x∈(ep (ak gs) N i k).1,x∈L)∧(ep (ak gs) N i k).1.length≤L.length:=by
 have h1:∀ x∈(ep (ak gs) N i k).1,x∈L:=fun x hx=>by
  have h2:=(zI (ak gs) N i k).1.subset hx;rw [pO hi] at h2;exact (hL.2 _).2 (sD _ x h2)
 exact ⟨h1,fA (vE (du hg) hi k).nd h1⟩
theorem Eh {L:List (List Nat)} (hg:∀ s∈gs,Gd N s) (hL:mW N gs L) (i:Nat):(∀ x∈(aI (ak gs) N i).1,x∈L)∧(aI (ak gs) N i).1.length≤L.length:=by
 have h1:∀ x∈(aI (ak gs) N i).1,x∈L:=fun x hx=>(hL.2 _).2 (sD _ x hx);exact ⟨h1,fA (gA (du hg) i).nd h1⟩
theorem q9 {L:List (List Nat)} (hg:∀ s∈gs,Gd N s) (hL:mW N gs L):L.idxOf (Ma.aR N)=0:=by
 have h1:Ma.aR N∈L:=(hL.2 _).2 .one;have hk:=List.idxOf_lt_length_of_mem h1
 by_cases e:L.idxOf (Ma.aR N)=0
 ·exact e
 ·exfalso
  have h0:0<L.length:=by omega
  have h2:=hL.1 0 (L.idxOf (Ma.aR N)) (by rw [List.length_map]; exact h0) (by rw [List.length_map]; exact hk) (by omega);rw [List.getElem_map,List.getElem_map,List.getElem_idxOf] at h2;have gx:=(Cm.Gr.fW hg).gd _ ((hL.2 _).1 (List.getElem_mem h0));obtain ⟨j,hj,h3,h4⟩:=qT (by rw [gx.2,(Cm.dX N).2]) h2;rw [gx.2] at hj
  have h5:∀ m,m<j→ap L[0] m=m:=fun m hm=>by rw [h3 m hm,Cm.dY (by omega)]
  rw [Cm.dY hj] at h4;have h6:=Cm.ku gx (i:=ap L[0] j) (j:=j) (by omega) hj (h5 _ h4);omega
end Go.Proofs.YtbngdgfmlmkgiaaGreat

namespace Go.Proofs.YtbngdgfmlmkgiaaGreat
open Go.RowKit
open Go.Proofs
open Go.Proofs.Ob
attribute [local irreducible] Go.Calls Go.wpList
def QG (B gw gs:Nat) (qv:Value) (W:World) (k:Nat):Prop:=B≤k∧k<W.heap.size∧k≠gw∧k≠gs∧qv.ownBlock≠some k
structure QW (B:Nat) (W:World) (gw gs:Nat) (qv:Value) (n:Nat) (q:List Nat) (fw:Nat→List Int) (fs:Nat→Bool):Prop where
 sz:B≤W.heap.size
 lo:B≤gw∧B≤gs∧gw≠gs
 qr:q7 (fun _=>False) (fun k=>k=gw∨k=gs) W qv (q.map fun k=>((k:Nat):Int))
 qB:∀ k,qv.ownBlock=some k→B≤k
 ms:y6 W gs n fs
 lt:gw<W.heap.size
 fz:∀ j,W.frozen? ⟨gw,j,none⟩=false
 wd:∀ j,j<n→∃ v,W.cell? ⟨gw,j,none⟩=some v∧Rg.FI (QG B gw gs qv W) W v (fw j)
theorem QW.below {B gw gs n:Nat} {W W':World} {qv:Value} {q:List Nat} {fw:Nat→List Int} {fs:Nat→Bool} (h:QW B W gw gs qv n q fw fs) (hb:Below W.heap.size W W'):QW B W' gw gs qv n q fw fs:=by
 obtain ⟨B0,h0,h1⟩:=h.qr.own;refine ⟨Nat.le_trans h.sz hb.size,h.lo,⟨⟨B0,Nat.le_trans h0 hb.size,Rg.aQ h1 hb⟩,fun k e=>?_⟩,h.qB,h.ms.below hb,Nat.lt_of_lt_of_le h.lt hb.size,fun j=>(hb.frozen (p:=⟨gw,j,none⟩) h.lt).trans (h.fz j),fun j hj=>?_⟩
 ·obtain ⟨a,b,c⟩:=h.qr.off k e
  exact ⟨a,b,Nat.lt_of_lt_of_le c hb.size⟩
 ·obtain ⟨v,h2,h3⟩:=h.wd j hj
  exact ⟨v,(hb.cell (p:=⟨gw,j,none⟩) h.lt).trans h2,(h3.kp (M:=fun _=>False) (Rg.Kp.aK hb) (fun _ _=>id)).mono fun k hk=>⟨hk.1,Nat.lt_of_lt_of_le hk.2.1 hb.size,hk.2.2⟩⟩
theorem QW.mark {gw gs:Nat} {qv:Value} {fw:Nat→List Int} {fs:Nat→Bool} (h:QW B W gw gs qv n q fw fs) (i:Nat):QW B (W.setCell ⟨gs,i,none⟩ (.bool true)) gw gs qv n q fw (fun j=>if j=i then true else fs j):=by
 have hk:Rg.Kp (fun k=>k=gs) W (W.setCell ⟨gs,i,none⟩ (.bool true)):=Rg.Kp.aS rfl;obtain ⟨B0,h0,h1⟩:=h.qr.own;refine ⟨by simpa using h.sz,h.lo,⟨⟨B0,by simpa using h0,gM h1 hk (fun k hm e=>(h.qr.off k e).2.1 (.inr hm))⟩,fun k e=>?_⟩,h.qB,h.ms.set i true,by simpa using h.lt,fun j=>by rw [World.frozen?_setCell]; exact h.fz j,fun j hj=>?_⟩
 ·obtain ⟨a,b,c⟩:=h.qr.off k e
  exact ⟨a,b,by simpa using c⟩
 ·obtain ⟨v,h2,h3⟩:=h.wd j hj
  refine ⟨v,?_,(h3.kp hk (fun k hq e=>hq.2.2.2.1 e)).mono fun k hq=>⟨hq.1,by simpa using hq.2.1,hq.2.2⟩⟩
  rw [World.cell?_setCell_other (h:=by intro e; injection e with e1; exact h.lo.2.2 e1.symm)]
  exact h2
theorem QW.word {gw gs:Nat} {qv v:Value} {fw:Nat→List Int} {fs:Nat→Bool} {u:List Int} (h:QW B W gw gs qv n q fw fs) (i:Nat) (hv:Rg.FI (QG B gw gs qv W) W v u):QW B (W.setCell ⟨gw,i,none⟩ v) gw gs qv n q (fun j=>if j=i then u else fw j) fs:=by
 have hk:Rg.Kp (fun k=>k=gw) W (W.setCell ⟨gw,i,none⟩ v):=Rg.Kp.aS rfl;obtain ⟨B0,h0,h1⟩:=h.qr.own
 have Up:y6 (W.setCell ⟨gw,i,none⟩ v) gs n fs:=by
  obtain ⟨c,g1,g2⟩:=h.ms.row;exact ⟨⟨c,(hk.block gs h.ms.lt (fun e=>h.lo.2.2 e.symm)).trans g1,g2⟩,by simpa using h.ms.lt⟩
 refine ⟨by simpa using h.sz,h.lo,⟨⟨B0,by simpa using h0,gM h1 hk (fun k hm e=>(h.qr.off k e).2.1 (.inl hm))⟩,fun k e=>?_⟩,h.qB,Up,by simpa using h.lt,fun j=>by rw [World.frozen?_setCell]; exact h.fz j,fun j hj=>?_⟩
 ·obtain ⟨a,b,c⟩:=h.qr.off k e
  exact ⟨a,b,by simpa using c⟩
 ·by_cases e:j=i
  ·subst e
   obtain ⟨v0,h2,_⟩:=h.wd j hj;refine ⟨v,World.cell?_setCell_same (h:=h2) ..,?_⟩;rw [if_pos rfl];exact (hv.kp hk (fun k hq e=>hq.2.2.1 e)).mono fun k hq=>⟨hq.1,by simpa using hq.2.1,hq.2.2⟩
  ·obtain ⟨v0,h2,h3⟩:=h.wd j hj
   rw [if_neg e];refine ⟨v0,?_,(h3.kp hk (fun k hq e=>hq.2.2.1 e)).mono fun k hq=>⟨hq.1,by simpa using hq.2.1,hq.2.2⟩⟩
   rw [World.cell?_setCell_other (h:=by intro e2; injection e2 with _ e3; exact e e3.symm)]
   exact h2
theorem QW.push {B gw gs n:Nat} {W:World} {qv:Value} {q:List Nat} {fw:Nat→List Int} {fs:Nat→Bool} (h:QW B W gw gs qv n q fw fs) (x:Nat) (hn:q.length<1000000) (ty:TypeId) :
  ∃ a c X,(Builtin.append_ #[25,25] ty #[qv,.slice (some ⟨W.heap.size,0,none⟩) 1 1]).run Tryz.prog (W.alloc (.cells #[.int .i64 ((x:Nat):Int)] 3))=.ok (.slice a (q.length+1) c) X∧QW B X gw gs (.slice a (q.length+1) c) n (q++[x]) fw fs∧(∀ {W0:World},Below B W0 W→Below B W0 X):=by
 obtain ⟨a,c,X,r1,r2,hk,ho⟩:=h.qr.push (fun _=>False.elim) (fun k hk=>by exact hk.elim (fun e=>e▸h.lt) (fun e=>e▸h.ms.lt)) ((x:Nat):Int) (by rw [List.length_map]; exact hn) ty;rw [List.length_map] at r1 r2 ho;have XI:qv.ownBlock≠some gw:=fun e=>(h.qr.off gw e).2.1 (.inl rfl);have kz:qv.ownBlock≠some gs:=fun e=>(h.qr.off gs e).2.1 (.inr rfl)
 have Up:y6 X gs n fs:=by
  obtain ⟨c,g1,g2⟩:=h.ms.row;exact ⟨⟨c,(hk.block gs h.ms.lt kz).trans g1,g2⟩,Nat.lt_of_lt_of_le h.ms.lt hk.size⟩
 refine ⟨a,c,X,r1,⟨Nat.le_trans h.sz hk.size,h.lo,by rw [List.map_append]; exact r2,fun k e=>?_,Up,Nat.lt_of_lt_of_le h.lt hk.size,fun j=>?_,fun j hj=>?_⟩,fun {W0} hb=>?_⟩
 ·rcases ho k e with e1 | e1
  ·exact h.qB k e1
  ·exact Nat.le_trans h.sz e1
 ·have:=World.frozen?_of_block (a:=⟨gw,j,none⟩) (hk.block gw h.lt XI)
  exact this.trans (h.fz j)
 ·obtain ⟨v,h2,h3⟩:=h.wd j hj
  refine ⟨v,(World.cell?_of_block (a:=⟨gw,j,none⟩) (hk.block gw h.lt XI)).trans h2,(h3.kp hk (fun k hq e=>hq.2.2.2.2 e)).mono fun k hq=>⟨hq.1,Nat.lt_of_lt_of_le hq.2.1 hk.size,hq.2.2.1,hq.2.2.2.1,fun e=>?_⟩⟩
  rcases ho k e with e1 | e1
  ·exact hq.2.2.2.2 e1
  ·have:=hq.2.1; omega
 ·exact tV hb h.sz hk h.qB
end Go.Proofs.YtbngdgfmlmkgiaaGreat
