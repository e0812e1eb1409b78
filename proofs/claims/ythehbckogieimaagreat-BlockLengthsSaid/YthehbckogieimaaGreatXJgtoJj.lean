/- Lemmas and contracts on the way to the statement; no condition of their own beyond those written. -/
import Derived.Test.YthehbckogieimaaGreatXHrtoJf
import Derived.Deep.MidRow
import Derived.Deep.WholeRow
import Derived.Laws.CopyOwn
import Derived.RangeFuncWrites
import Derived.RangeFuncNested
import Derived.RangeFuncBox
import Derived.RangeFuncLeaves
import Derived.Shelf.Abstract
import Derived.OwnWalkIn
import Derived.TacticsInMore
import Derived.LoopNIn
import Derived.LoopIn
import Derived.Maps.AppendAt
import Derived.Sort.CutIn
import Derived.Deep.CutRange
import Derived.Deep.CutBlock
import Derived.IntWalk
import Derived.Great.BuildSlice
import Derived.ArgAppend
import Derived.StillTailTactics
import Derived.WalkSpells
import Derived.WalkLawsBesides
import Derived.OwnWalk
import Derived.OrdersHeld
import Derived.Deep.OwnRows
import Derived.WalkKit
import Derived.Lib.Hide
import Derived.Laws.OwnMore
import Derived.Test.YthehbckogieimaaGreatProg
import Derived.Outline
import Derived.Deep.DeepFit
import Derived.BigQuiet
import Derived.Deep.QuietTactic
import Derived.Sort.OwnSortedInts
import Derived.WideMake
import Derived.MapKept
import Derived.ChangeMaps5
import Derived.Shelf.Sort.Plain
import Derived.Lib.ConvBytes
import Derived.ChangeKeysEq
import Derived.Laws.Cells
import Derived.Laws.Rows
import Derived.Laws.Tables
import Derived.OrdersIn
import Derived.TacticsIn
import Derived.Deep.LoopGhost
import Derived.Lib.SlicesSearch
import Derived.Stop.BytesEq
import Derived.Shelf.SlSortCmp.Whole1
import Derived.Ground.SlsfProg
set_option linter.unusedVariables false
set_option linter.unusedSimpArgs false
set_option maxRecDepth 100000
set_option maxHeartbeats 8000000
namespace Go.Proofs.YthehbckogieimaaGreat
open Go.RowKit
open Go.Proofs
open Go.Proofs.Ob
open Go.Proofs.Cm (Gd)
attribute [local irreducible] Go.Calls Go.wpList
theorem nodup_full {l:List Nat} (h:∀ c,c<l.length→c∈l):l.Nodup:=by
 rw [List.nodup_iff_pairwise_ne,List.pairwise_iff_getElem];intro i j hi hj hij e
 have h1:(List.range l.length).length≤(l.eraseIdx j).length:=nodup_le List.nodup_range fun y hy=>by
  have hy':=h y (List.mem_range.1 hy);obtain ⟨q,hq,e2⟩:=List.getElem_of_mem hy'
  by_cases e3:q=j
  ·subst e3
   refine List.mem_eraseIdx_iff_getElem.2 ⟨i,hi,by omega,?_⟩;rw [e,e2]
  ·exact List.mem_eraseIdx_iff_getElem.2 ⟨q,hq,e3,e2⟩
 rw [List.length_range,List.length_eraseIdx_of_lt hj] at h1;omega
theorem inv_back {D:Nat} {gs:List (List Nat)} {L:List Nat} (hg:GG D gs) (hl:L.length=D) (hr:Bk.rgc L 0) (h:Bk.Inv D gs.length (img gs) L) {s a b:Nat} (hs:s<gs.length) (ha:a<D) (hb:b<D) (e:L.getD (img gs s a) 0=L.getD (img gs s b) 0):L.getD a 0=L.getD b 0:=by
 obtain ⟨B,hB⟩:∃ B,Bk.acB L (gs[s]'hs)=B:=⟨_,rfl⟩;have hk:=hg _ (List.getElem_mem hs)
 have hmem:∀ c,c<Bk.mny L 0↔c∈L:=fun c=>by
  have:=Bk.rgc_mem hr c
  constructor
  ·intro h; exact (this.2 h).resolve_left (Nat.not_lt_zero _)
  ·intro h; exact this.1 (.inr h)
 have him:∀ x,x<D→img gs s x=(gs[s]'hs).getD x 0:=fun x hx=>by
  rw [img_get hs (by rw [hk.2]; exact hx),Bk.getD_lt (by rw [hk.2]; exact hx)]
 have hat:∀ x,x<D→B.getD (L.getD x 0) 0=L.getD (img gs s x) 0:=fun x hx=>by
  have hc:L.getD x 0<Bk.mny L 0:=(hmem _).2 (by rw [Bk.getD_lt (by rw [hl]; exact hx)]; exact List.getElem_mem _);rw [← hB,Bk.acB_at hc];have h1:=(Bk.inv_iff hl).1 h s x hs hx
  have h2:L.idxOf (L.getD x 0)<D:=by rw [← hl]; exact Bk.idxOf_lt (by rw [hl]; exact hx)
  rw [h1,him _ h2]
 have hlen:B.length=Bk.mny L 0:=by rw [← hB,Bk.acB_len]
 have hfull:∀ c,c<B.length→c∈B:=fun c hc=>by
  rw [hlen] at hc;obtain ⟨y,hy,e1⟩:=List.getElem_of_mem ((hmem c).1 hc)
  have hy2:y<(gs[s]'hs).length:=by rw [hk.2,← hl]; exact hy
  obtain ⟨x,hx,e2⟩:=List.getElem_of_mem (Ma.okN_mem hk.1 hy2)
  have hxD:x<D:=by rw [← hk.2]; exact hx
  have h3:=hat x hxD;rw [him x hxD,Bk.getD_lt hx,e2,Bk.getD_lt hy,e1] at h3
  have h4:L.getD x 0<B.length:=by rw [hlen]; exact (hmem _).2 (by rw [Bk.getD_lt (by rw [hl]; exact hxD)]; exact List.getElem_mem _)
  rw [← h3,Bk.getD_lt h4];exact List.getElem_mem _
 have hnd:=nodup_full hfull
 have h5:L.getD a 0<B.length:=by rw [hlen]; exact (hmem _).2 (by rw [Bk.getD_lt (by rw [hl]; exact ha)]; exact List.getElem_mem _)
 have h6:L.getD b 0<B.length:=by rw [hlen]; exact (hmem _).2 (by rw [Bk.getD_lt (by rw [hl]; exact hb)]; exact List.getElem_mem _)
 have h7:B.getD (L.getD a 0) 0=B.getD (L.getD b 0) 0:=by rw [hat a ha,hat b hb,e]
 rw [Bk.getD_lt h5,Bk.getD_lt h6] at h7;exact (List.getElem_inj hnd).1 h7
def SyQ (gs:List (List Nat)) (L:List Nat) (s i k:Nat):Prop:=L.getD i 0=L.getD k 0↔L.getD (img gs s i) 0=L.getD (img gs s k) 0
structure SyJ (D:Nat) (gs:List (List Nat)) (L:List Nat) (s i k:Nat):Prop where
 a:∀ s' i' k',s' < s→i' < D→k' < i'→SyQ gs L s' i' k'
 b:∀ i' k',i' < i→k' < i'→SyQ gs L s i' k'
 c:∀ k',k' < k→SyQ gs L s i k'
theorem SyJ.start (D:Nat) (gs:List (List Nat)) (L:List Nat):SyJ D gs L 0 0 0:=⟨fun _ _ _ h=>absurd h (Nat.not_lt_zero _),fun _ _ h=>absurd h (Nat.not_lt_zero _),fun _ h=>absurd h (Nat.not_lt_zero _)⟩
theorem SyJ.nextS {D:Nat} {gs:List (List Nat)} {L:List Nat} {s i:Nat} (h:SyJ D gs L s i 0) (hi:D≤i):SyJ D gs L (s+1) 0 0 :=
 ⟨fun s' i' k' h1 h2 h3=>by
  by_cases e:s'=s
  ·subst e; exact h.b i' k' (by omega) h3
  ·exact h.a s' i' k' (by omega) h2 h3,fun _ _ h=>absurd h (Nat.not_lt_zero _),fun _ h=>absurd h (Nat.not_lt_zero _)⟩
theorem SyJ.nextI {D:Nat} {gs:List (List Nat)} {L:List Nat} {s i k:Nat} (h:SyJ D gs L s i k) (hk:i≤k):SyJ D gs L s (i+1) 0 :=
 ⟨h.a,fun i' k' h1 h2=>by
  by_cases e:i'=i
  ·subst e; exact h.c k' (by omega)
  ·exact h.b i' k' (by omega) h2,fun _ h=>absurd h (Nat.not_lt_zero _)⟩
theorem SyJ.nextK {D:Nat} {gs:List (List Nat)} {L:List Nat} {s i k:Nat} (h:SyJ D gs L s i k) (hq:SyQ gs L s i k):SyJ D gs L s i (k+1) :=
 ⟨h.a,h.b,fun k' h1=>by
  by_cases e:k'=k
  ·subst e; exact hq
  ·exact h.c k' (by omega)⟩
theorem SyJ.done {D:Nat} {gs:List (List Nat)} {L:List Nat} {s i k:Nat} (h:SyJ D gs L s i k) (hs:gs.length≤s) (hl:L.length=D):syB D gs L=true:=by
 rw [syB_iff hl];intro s' a b hs' ha hb e
 rcases Nat.lt_trichotomy a b with e2 | e2 | e2
 ·exact ((h.a s' b a (by omega) hb e2).1 e.symm).symm
 ·subst e2; rfl
 ·exact (h.a s' a b (by omega) ha e2).1 e
theorem SyQ.bad {D:Nat} {gs:List (List Nat)} {L:List Nat} {s i k:Nat} (hg:GG D gs) (hl:L.length=D) (hr:Bk.rgc L 0) (hs:s<gs.length) (hi:i<D) (hk:k<i) (h:¬ SyQ gs L s i k):syB D gs L=false:=by
 cases e:syB D gs L with
 | false=>rfl
 | true =>
  have h1:=(syB_iff hl).1 e;exact absurd ⟨fun e2=>h1 s i k hs hi (by omega) e2,fun e2=>inv_back hg hl hr h1 hs hi (by omega) e2⟩ h
theorem rgc_at {L:List Nat} {i:Nat} (h:Bk.rgc L 0) (hi:i<L.length):L.getD i 0≤Bk.mny (L.take i) 0∧Bk.mny (L.take (i+1)) 0=if L.getD i 0=Bk.mny (L.take i) 0 then Bk.mny (L.take i) 0+1 else Bk.mny (L.take i) 0:=by
 have e:L.take (i+1)=L.take i++[L.getD i 0]:=by rw [List.take_add_one,List.getElem?_eq_getElem hi,Bk.getD_lt hi]; rfl
 have h1:Bk.rgc (L.take (i+1)) 0:=by
  have h2:Bk.rgc (L.take (i+1)++L.drop (i+1)) 0:=by rw [List.take_append_drop]; exact h
  exact ((Bk.rgc_append _ _ _).1 h2).1
 rw [e,Bk.rgc_snoc] at h1;exact ⟨h1.2,by rw [e,Bk.mny_snoc]⟩
theorem exec_neqB {o:Oper} {a:Act} {w:World} (x y:Operand) (ho:o.op=.binOp .neq 4 x y 4) {s t r:Bool} (hx:a.eval x=.bool s) (hy:a.eval y=.bool t) (hr:(s != t)=r):(execOp a.eval o).run Tryz.prog w=.ok (.value (.bool r)) w:=by
 subst hr;unfold execOp;simp only [ho,hx,hy]
 cases s <;> cases t <;> kernel_rfl
theorem sysLaw_any (D:Nat) (gs:List (List Nat)) (L:List Nat) (gv lv:Value) (w:World) (hD1:1≤D) (hD:D≤64) (hg:Rg.Rows w gv (gs.map Ma.ofN)) (hgg:GG D gs) (hgl:gs.length≤1000) (hl:Rg.NP w lv L) (hll:L.length=D) (hr:Bk.rgc L 0) :
  Calls Tryz.prog 27 #[.agg #[.int .i64 ((D:Nat):Int),gv],lv] w fun e w'=>e=.returned (.bool (syB D gs L))∧Below w.heap.size w w':=by
 obtain ⟨ga,gc,hsh,-⟩:=hg.shape;rw [List.length_map] at hsh;subst hsh;obtain ⟨lb,lo,lc,rfl,hbx⟩:=NpI.at ⟨hl⟩ hll hD1;have HBX:=ι hbx;have HG:=ι hg;have HGG:=ι hgg;have HLL:=ι hll;have HR:=ι hr;have hb0:Below w.heap.size w (w.alloc (.cells #[.int .i64 ((D:Nat):Int),.slice ga gs.length gc] 24)):=(Below.refl _ _).alloc (Nat.le_refl _) _;have G0:=ι (box2 w (.int .i64 ((D:Nat):Int)) (.slice ga gs.length gc)).1;have G1:=ι (box2 w (.int .i64 ((D:Nat):Int)) (.slice ga gs.length gc)).2;have HWB:=ι hb0;clear hg hgg hl hb0 hbx hr
 go_enter Tryz.func27,Tryz.ntmps27
 obtain ⟨gb,hgb⟩:∃ gb,w.heap.size=gb:=⟨_,rfl⟩;rw [hgb] at G0 G1;go_upto_region 0 with (fail);refine wp_region_list ?_;refine Rg.lr 2 (Rg.exec_box _ _ rfl rfl) ?_;go_frame;refine Rg.la 4 (.bool false) ?_;go_frame;rw [hgb];clear hgb;generalize w.alloc (.cells #[.int .i64 ((D:Nat):Int),.slice ga gs.length gc] 24)=w0 at *;have K:=ι (Below.refl w0.heap.size w0);go_upto_region 1 with (fail);refine wp_region_list ?_;refine Rg.lm 10 (.slice (some ⟨lb,lo,none⟩) D lc) ?_;go_frame;refine Rg.lr 11 (exec_len _ _ _ rfl Tryz.underlying36 _ _ _ rfl) ?_;go_frame;refine Rg.lr 12 (exec_fieldG0 _ rfl rfl) ?_;go_frame;refine Rg.lr 13 (Rg.exec_load (v:=.int .i64 ((D:Nat):Int)) _ _ rfl ⟨gb,0,none⟩ rfl (run_loadInt ((Below.cell (p:=⟨gb,0,none⟩) K.out G0.out.lt).trans G0.out.cell))) ?_;go_frame;refine Rg.lr 14 (exec_bin (R:=.bool false) .neq _ _ _ rfl rfl rfl (b_neqB _ (decide_eq_false (by omega)))) ?_;go_frame
 go_upto_region 3 with (fail);refine wp_region_list ?_;refine Rg.la 5 (.int .i64 ((0:Nat):Int)) ?_;go_frame;go_upto_region 4 with (fail);refine wp_region_list ?_;refine Rg.la 6 (.int .i64 ((0:Nat):Int)) ?_;go_frame;have HM:=ι (show Bk.mny (L.take 0) 0=0 from by rw [List.take_zero]; rfl);go_wp2
 go_loopw [5,6] (fun nv iv wr=>∃ i m:Nat,nv=.int .i64 ((m:Nat):Int)∧iv=.int .i64 ((i:Nat):Int)∧i≤D∧Hid (Bk.mny (L.take i) 0=m)∧Hid (Below w0.heap.size w0 wr)) (fun _ iv _=>D - (intOf iv).toNat)
 case atStart=>exact ⟨0,0,rfl,rfl,Nat.zero_le _,HM,K⟩
 case round =>
  clear HM K;obtain ⟨i,m,rfl,rfl,hi,HM,K⟩:=hrel;generalize wr=wd at *
  by_cases hiD:i<D
  case pos =>
   obtain ⟨x,hx⟩:∃ x,Hid (L.getD i 0=x):=⟨_,ι rfl⟩;have CX:=ι (show CL w0 lb (lo+i) (.int .i64 ((x:Nat):Int)) by rw [← hx.out]; exact (HBX.out i hiD).up HWB.out);have hst:=rgc_at HR.out (i:=i) (by rw [HLL.out]; exact hiD);rw [HM.out,hx.out] at hst
   have hm64:m≤64:=by
    have:=Bk.mny_le (L.take i) 0;rw [HM.out,List.length_take] at this;omega
   have hxm:x≤m:=hst.1;have HST:=ι hst.2;have HID:=ι hiD;clear hst
   by_cases hxe:x=m
   ·skip
    go_upto_region 5 with (fail);refine wp_region_list ?_;refine Rg.lm 15 (.int .i64 ((i:Nat):Int)) ?_;go_frame;refine Rg.lm 16 (.slice (some ⟨lb,lo,none⟩) D lc) ?_;go_frame;refine Rg.lr 17 (exec_len _ _ _ rfl Tryz.underlying36 _ _ _ rfl) ?_;go_frame;refine Rg.lr 18 (exec_bin (R:=.bool true) .lss _ _ _ rfl rfl rfl (b_lss _ (decide_eq_true (by omega)))) ?_;go_frame;go_upto_region 7 with (fail);refine wp_region_list ?_;refine Rg.lm 21 (.slice (some ⟨lb,lo,none⟩) D lc) ?_;go_frame;refine Rg.lm 22 (.int .i64 ((i:Nat):Int)) ?_;go_frame;refine Rg.lr 23 (exec_indexS slInts _ _ rfl lb (lo) (D) lc (i) rfl rfl hiD) ?_;go_frame;refine Rg.lr 24 (Rg.exec_load (v:=.int .i64 ((x:Nat):Int)) _ _ rfl ⟨lb,lo+i,none⟩ rfl (run_loadInt ((Below.cell (p:=⟨lb,lo+i,none⟩) K.out CX.out.lt).trans CX.out.cell))) ?_;go_frame;refine Rg.lr 25 (exec_bin (R:=.bool false) .lss _ _ _ rfl rfl rfl (b_lss _ (decide_eq_false (by omega)))) ?_;go_frame
    refine Rg.lm 26 (.bool false) ?_;go_frame;refine listW_run (some 27) rfl rfl (Rg.xm (.slice (some ⟨lb,lo,none⟩) D lc) _ rfl rfl) ?_;go_frame;refine listW_run (some 28) rfl rfl (Rg.xm (.int .i64 ((i:Nat):Int)) _ rfl rfl) ?_;go_frame;refine listW_run (some 29) rfl rfl (exec_indexS slInts _ _ rfl lb (lo) (D) lc (i) rfl rfl hiD) ?_;go_frame;refine listW_run (some 30) rfl rfl (Rg.exec_load (v:=.int .i64 ((x:Nat):Int)) _ _ rfl ⟨lb,lo+i,none⟩ rfl (run_loadInt ((Below.cell (p:=⟨lb,lo+i,none⟩) K.out CX.out.lt).trans CX.out.cell))) ?_;go_frame;refine listW_run (some 31) rfl rfl (Rg.xm (.int .i64 ((m:Nat):Int)) _ rfl rfl) ?_;go_frame;refine listW_run (some 32) rfl rfl (exec_bin (R:=.bool false) .gtr _ _ _ rfl rfl rfl (b_gtr _ (decide_eq_false (by omega)))) ?_;go_frame;refine Rg.lr 33 (exec_pickF (v:=.bool false) _ _ _ rfl rfl rfl) ?_;go_frame;go_upto_region 9 with (fail)
    refine wp_region_list ?_;refine Rg.lm 34 (.slice (some ⟨lb,lo,none⟩) D lc) ?_;go_frame;refine Rg.lm 35 (.int .i64 ((i:Nat):Int)) ?_;go_frame;refine Rg.lr 36 (exec_indexS slInts _ _ rfl lb (lo) (D) lc (i) rfl rfl hiD) ?_;go_frame;refine Rg.lr 37 (Rg.exec_load (v:=.int .i64 ((x:Nat):Int)) _ _ rfl ⟨lb,lo+i,none⟩ rfl (run_loadInt ((Below.cell (p:=⟨lb,lo+i,none⟩) K.out CX.out.lt).trans CX.out.cell))) ?_;go_frame;refine Rg.lm 38 (.int .i64 ((m:Nat):Int)) ?_;go_frame;refine Rg.lr 39 (exec_bin (R:=.bool true) .eql _ _ _ rfl rfl rfl (b_eql _ (decide_eq_true (by omega)))) ?_;go_frame;go_upto_region 10 with (fail);refine wp_region_list ?_;refine Rg.lm 40 (.int .i64 ((m:Nat):Int)) ?_;go_frame;refine Rg.lr 41 (exec_bin (R:=.int .i64 (((m+1):Nat):Int)) .add _ _ _ rfl rfl rfl (b_add _ (by omega) (by omega))) ?_;go_frame;refine Rg.la 5 (.int .i64 (((m+1):Nat):Int)) ?_;go_frame
    have HM2:=ι (show Bk.mny (L.take (i+1)) 0=m+1 by rw [HST.out,if_pos hxe]);go_upto_region 6 with (fail);refine wp_region_list ?_;refine Rg.lm 19 (.int .i64 ((i:Nat):Int)) ?_;go_frame;refine Rg.lr 20 (exec_bin (R:=.int .i64 (((i+1):Nat):Int)) .add _ _ _ rfl rfl rfl (b_add _ (by omega) (by omega))) ?_;go_frame;refine Rg.la 6 (.int .i64 (((i+1):Nat):Int)) ?_;go_frame;go_wp2
    go_roundw
    case rel=>exact ⟨i+1,m+1,by go_num,by go_num,HID.out,HM2,K⟩
    case measure=>simp [intOf]; have:=HID.out; omega
   ·skip
    go_upto_region 5 with (fail);refine wp_region_list ?_;refine Rg.lm 15 (.int .i64 ((i:Nat):Int)) ?_;go_frame;refine Rg.lm 16 (.slice (some ⟨lb,lo,none⟩) D lc) ?_;go_frame;refine Rg.lr 17 (exec_len _ _ _ rfl Tryz.underlying36 _ _ _ rfl) ?_;go_frame;refine Rg.lr 18 (exec_bin (R:=.bool true) .lss _ _ _ rfl rfl rfl (b_lss _ (decide_eq_true (by omega)))) ?_;go_frame;go_upto_region 7 with (fail);refine wp_region_list ?_;refine Rg.lm 21 (.slice (some ⟨lb,lo,none⟩) D lc) ?_;go_frame;refine Rg.lm 22 (.int .i64 ((i:Nat):Int)) ?_;go_frame;refine Rg.lr 23 (exec_indexS slInts _ _ rfl lb (lo) (D) lc (i) rfl rfl hiD) ?_;go_frame;refine Rg.lr 24 (Rg.exec_load (v:=.int .i64 ((x:Nat):Int)) _ _ rfl ⟨lb,lo+i,none⟩ rfl (run_loadInt ((Below.cell (p:=⟨lb,lo+i,none⟩) K.out CX.out.lt).trans CX.out.cell))) ?_;go_frame;refine Rg.lr 25 (exec_bin (R:=.bool false) .lss _ _ _ rfl rfl rfl (b_lss _ (decide_eq_false (by omega)))) ?_;go_frame
    refine Rg.lm 26 (.bool false) ?_;go_frame;refine listW_run (some 27) rfl rfl (Rg.xm (.slice (some ⟨lb,lo,none⟩) D lc) _ rfl rfl) ?_;go_frame;refine listW_run (some 28) rfl rfl (Rg.xm (.int .i64 ((i:Nat):Int)) _ rfl rfl) ?_;go_frame;refine listW_run (some 29) rfl rfl (exec_indexS slInts _ _ rfl lb (lo) (D) lc (i) rfl rfl hiD) ?_;go_frame;refine listW_run (some 30) rfl rfl (Rg.exec_load (v:=.int .i64 ((x:Nat):Int)) _ _ rfl ⟨lb,lo+i,none⟩ rfl (run_loadInt ((Below.cell (p:=⟨lb,lo+i,none⟩) K.out CX.out.lt).trans CX.out.cell))) ?_;go_frame;refine listW_run (some 31) rfl rfl (Rg.xm (.int .i64 ((m:Nat):Int)) _ rfl rfl) ?_;go_frame;refine listW_run (some 32) rfl rfl (exec_bin (R:=.bool false) .gtr _ _ _ rfl rfl rfl (b_gtr _ (decide_eq_false (by omega)))) ?_;go_frame;refine Rg.lr 33 (exec_pickF (v:=.bool false) _ _ _ rfl rfl rfl) ?_;go_frame;go_upto_region 9 with (fail)
    refine wp_region_list ?_;refine Rg.lm 34 (.slice (some ⟨lb,lo,none⟩) D lc) ?_;go_frame;refine Rg.lm 35 (.int .i64 ((i:Nat):Int)) ?_;go_frame;refine Rg.lr 36 (exec_indexS slInts _ _ rfl lb (lo) (D) lc (i) rfl rfl hiD) ?_;go_frame;refine Rg.lr 37 (Rg.exec_load (v:=.int .i64 ((x:Nat):Int)) _ _ rfl ⟨lb,lo+i,none⟩ rfl (run_loadInt ((Below.cell (p:=⟨lb,lo+i,none⟩) K.out CX.out.lt).trans CX.out.cell))) ?_;go_frame;refine Rg.lm 38 (.int .i64 ((m:Nat):Int)) ?_;go_frame;refine Rg.lr 39 (exec_bin (R:=.bool false) .eql _ _ _ rfl rfl rfl (b_eql _ (decide_eq_false (by omega)))) ?_;go_frame;have HM2:=ι (show Bk.mny (L.take (i+1)) 0=m by rw [HST.out,if_neg hxe]);go_upto_region 6 with (fail);refine wp_region_list ?_;refine Rg.lm 19 (.int .i64 ((i:Nat):Int)) ?_;go_frame;refine Rg.lr 20 (exec_bin (R:=.int .i64 (((i+1):Nat):Int)) .add _ _ _ rfl rfl rfl (b_add _ (by omega) (by omega))) ?_;go_frame
    refine Rg.la 6 (.int .i64 (((i+1):Nat):Int)) ?_;go_frame;go_wp2
    go_roundw
    case rel=>exact ⟨i+1,m,rfl,by go_num,HID.out,HM2,K⟩
    case measure=>simp [intOf]; have:=HID.out; omega
  case neg =>
   skip
   go_upto_region 5 with (fail);refine wp_region_list ?_;refine Rg.lm 15 (.int .i64 ((i:Nat):Int)) ?_;go_frame;refine Rg.lm 16 (.slice (some ⟨lb,lo,none⟩) D lc) ?_;go_frame;refine Rg.lr 17 (exec_len _ _ _ rfl Tryz.underlying36 _ _ _ rfl) ?_;go_frame;refine Rg.lr 18 (exec_bin (R:=.bool false) .lss _ _ _ rfl rfl rfl (b_lss _ (decide_eq_false (by omega)))) ?_;go_frame;go_upto_region 11 with (fail);refine wp_region_list ?_;refine Rg.la 7 (.int .i64 ((0:Nat):Int)) ?_;go_frame;have SJ:=ι (SyJ.start D gs L);go_wp2
   go_loopw [7] (fun sv wr=>∃ s:Nat,sv=.int .i64 ((s:Nat):Int)∧s≤gs.length∧Hid (SyJ D gs L s 0 0)∧Hid (Below w0.heap.size w0 wr)) (fun sv _=>gs.length - (intOf sv).toNat)
   case atStart=>exact ⟨0,rfl,Nat.zero_le _,SJ,K⟩
   case round =>
    clear SJ K;obtain ⟨s,rfl,hs,SJ,K⟩:=hrel;generalize wr=we at *
    by_cases hsl:s<gs.length
    case neg =>
     have HT:=ι (SJ.out.done (by omega) HLL.out);go_upto_region 12 with (fail);refine wp_region_list ?_;refine Rg.lm 42 (.int .i64 ((s:Nat):Int)) ?_;go_frame;refine Rg.lr 43 (exec_fieldG _ rfl rfl) ?_;go_frame;refine Rg.lr 44 (Rg.exec_load (v:=.slice ga gs.length gc) _ _ rfl ⟨gb,1,none⟩ rfl (Rg.run_loadSl _ _ Tryz.underlying22 ((Below.cell (p:=⟨gb,1,none⟩) K.out G1.out.lt).trans G1.out.cell))) ?_;go_frame;refine Rg.lr 45 (exec_len _ _ _ rfl Tryz.underlying22 _ _ _ rfl) ?_;go_frame;refine Rg.lr 46 (exec_bin (R:=.bool false) .lss _ _ _ rfl rfl rfl (b_lss _ (decide_eq_false (by omega)))) ?_;go_frame;go_upto_region 22 with (fail);refine wp_region_list ?_;refine Rg.la 4 (.bool true) ?_;go_frame;go_wp2;go_ret;exact ⟨by rw [HT.out]; rfl,Rg.acc HWB.out K.out⟩
    case pos =>
     have HSL:=ι hsl;have HGN:=ι (show s<(gs.map Ma.ofN).length by rw [List.length_map]; exact hsl);obtain ⟨rb,ro,ua,uc,rfl,hgb,hgc,hgu⟩:=rows_get HG.out (i:=s) HGN.out;obtain ⟨gi,HGI⟩:∃ z,Hid (gs[s]'hsl=z):=⟨_,ι rfl⟩
     have hgd:gi.length=D:=by rw [← HGI.out]; exact (HGG.out _ (List.getElem_mem hsl)).2
     rw [show (gs.map Ma.ofN)[s]'HGN.out=Ma.ofN gi by rw [List.getElem_map,HGI.out]] at hgc hgu;rw [Ma.len_ofN,hgd] at hgc hgu
     have hsl2:(Ma.ofN gi).length=D:=by rw [Ma.len_ofN,hgd]
     obtain ⟨ub,uo,rfl,hub,-⟩:=ints_get hgu (k:=0) (by rw [hsl2]; omega);have HGC:=ι (show CL w0 rb (ro+s) (.slice (some ⟨ub,uo,none⟩) D uc) from CL.up ⟨hgc,hgb⟩ HWB.out)
     have HUX:=ι (show ∀ k,k<D→CL w0 ub (uo+k) (.int .i64 ((img gs s k:Nat):Int)) from fun k hk=>by
      obtain ⟨ub',uo',e',_,hu⟩:=ints_get hgu (k:=k) (by rw [hsl2]; exact hk);simp only [Option.some.injEq,Addr.mk.injEq,and_true] at e';obtain ⟨rfl,rfl⟩:=e';refine CL.up ⟨?_,hub⟩ HWB.out;rw [hu,Ma.get_ofN,img_get hsl (by rw [HGI.out,hgd]; exact hk)]
      simp only [HGI.out])
     clear hgb hgc hgu hub hgd hsl2;go_upto_region 12 with (fail);refine wp_region_list ?_;refine Rg.lm 42 (.int .i64 ((s:Nat):Int)) ?_;go_frame;refine Rg.lr 43 (exec_fieldG _ rfl rfl) ?_;go_frame;refine Rg.lr 44 (Rg.exec_load (v:=.slice (some ⟨rb,ro,none⟩) gs.length gc) _ _ rfl ⟨gb,1,none⟩ rfl (Rg.run_loadSl _ _ Tryz.underlying22 ((Below.cell (p:=⟨gb,1,none⟩) K.out G1.out.lt).trans G1.out.cell))) ?_;go_frame;refine Rg.lr 45 (exec_len _ _ _ rfl Tryz.underlying22 _ _ _ rfl) ?_;go_frame;refine Rg.lr 46 (exec_bin (R:=.bool true) .lss _ _ _ rfl rfl rfl (b_lss _ (decide_eq_true (by omega)))) ?_;go_frame;go_upto_region 14 with (fail);refine wp_region_list ?_;refine Rg.la 8 (.int .i64 ((0:Nat):Int)) ?_;go_frame;go_wp2
     go_loopw [8] (fun iv wr=>∃ i:Nat,iv=.int .i64 ((i:Nat):Int)∧i≤D∧Hid (SyJ D gs L s i 0)∧Hid (Below w0.heap.size w0 wr)) (fun iv _=>D - (intOf iv).toNat)
     case atStart=>exact ⟨0,rfl,Nat.zero_le _,SJ,K⟩
     case round =>
      clear SJ K;obtain ⟨i,rfl,hi,SJ,K⟩:=hrel;generalize wr=wf at *
      by_cases hin:i<D
      case neg =>
       have SJ2:=ι (SJ.out.nextS (by omega));go_upto_region 15 with (fail);refine wp_region_list ?_;refine Rg.lm 49 (.int .i64 ((i:Nat):Int)) ?_;go_frame;refine Rg.lm 50 (.slice (some ⟨lb,lo,none⟩) D lc) ?_;go_frame;refine Rg.lr 51 (exec_len _ _ _ rfl Tryz.underlying36 _ _ _ rfl) ?_;go_frame;refine Rg.lr 52 (exec_bin (R:=.bool false) .lss _ _ _ rfl rfl rfl (b_lss _ (decide_eq_false (by omega)))) ?_;go_frame;go_upto_region 13 with (fail);refine wp_region_list ?_;refine Rg.lm 47 (.int .i64 ((s:Nat):Int)) ?_;go_frame;refine Rg.lr 48 (exec_bin (R:=.int .i64 (((s+1):Nat):Int)) .add _ _ _ rfl rfl rfl (b_add _ (by omega) (by omega))) ?_;go_frame;refine Rg.la 7 (.int .i64 (((s+1):Nat):Int)) ?_;go_frame;go_wp2
       go_roundw
       case rel=>exact ⟨s+1,by go_num,HSL.out,SJ2,K⟩
       case measure=>simp [intOf]; have:=HSL.out; omega
      case pos =>
       have HIN:=ι hin;go_upto_region 15 with (fail);refine wp_region_list ?_;refine Rg.lm 49 (.int .i64 ((i:Nat):Int)) ?_;go_frame;refine Rg.lm 50 (.slice (some ⟨lb,lo,none⟩) D lc) ?_;go_frame;refine Rg.lr 51 (exec_len _ _ _ rfl Tryz.underlying36 _ _ _ rfl) ?_;go_frame;refine Rg.lr 52 (exec_bin (R:=.bool true) .lss _ _ _ rfl rfl rfl (b_lss _ (decide_eq_true (by omega)))) ?_;go_frame;go_upto_region 17 with (fail);refine wp_region_list ?_;refine Rg.la 9 (.int .i64 ((0:Nat):Int)) ?_;go_frame;go_wp2
       go_loopw [9] (fun kv wr=>∃ k:Nat,kv=.int .i64 ((k:Nat):Int)∧k≤i∧Hid (SyJ D gs L s i k)∧Hid (Below w0.heap.size w0 wr)) (fun kv _=>i - (intOf kv).toNat)
       case atStart=>exact ⟨0,rfl,Nat.zero_le _,SJ,K⟩
       case round =>
        clear SJ K;obtain ⟨k,rfl,hk,SJ,K⟩:=hrel;generalize wr=wg at *
        by_cases hki:k<i
        case neg =>
         have SJ2:=ι (SJ.out.nextI (by omega));go_upto_region 18 with (fail);refine wp_region_list ?_;refine Rg.lm 55 (.int .i64 ((k:Nat):Int)) ?_;go_frame;refine Rg.lm 56 (.int .i64 ((i:Nat):Int)) ?_;go_frame;refine Rg.lr 57 (exec_bin (R:=.bool false) .lss _ _ _ rfl rfl rfl (b_lss _ (decide_eq_false (by omega)))) ?_;go_frame;go_upto_region 16 with (fail);refine wp_region_list ?_;refine Rg.lm 53 (.int .i64 ((i:Nat):Int)) ?_;go_frame;refine Rg.lr 54 (exec_bin (R:=.int .i64 (((i+1):Nat):Int)) .add _ _ _ rfl rfl rfl (b_add _ (by omega) (by omega))) ?_;go_frame;refine Rg.la 8 (.int .i64 (((i+1):Nat):Int)) ?_;go_frame;go_wp2
         go_roundw
         case rel=>exact ⟨i+1,by go_num,HIN.out,SJ2,K⟩
         case measure=>simp [intOf]; have:=HIN.out; omega
        case pos =>
         have hkD:k<D:=by omega
         have HKI:=ι hki;obtain ⟨fi,hfi⟩:∃ x,Hid (img gs s i=x):=⟨_,ι rfl⟩;obtain ⟨fk,hfk⟩:∃ x,Hid (img gs s k=x):=⟨_,ι rfl⟩
         have hfiD:fi<D:=by rw [← hfi.out]; exact img_lt HGG.out s i hsl hin
         have hfkD:fk<D:=by rw [← hfk.out]; exact img_lt HGG.out s k hsl hkD
         obtain ⟨a1,h1⟩:∃ x,Hid (L.getD i 0=x):=⟨_,ι rfl⟩;obtain ⟨a2,h2⟩:∃ x,Hid (L.getD k 0=x):=⟨_,ι rfl⟩;obtain ⟨a3,h3⟩:∃ x,Hid (L.getD fi 0=x):=⟨_,ι rfl⟩;obtain ⟨a4,h4⟩:∃ x,Hid (L.getD fk 0=x):=⟨_,ι rfl⟩;have C1:=ι (show CL w0 lb (lo+i) (.int .i64 ((a1:Nat):Int)) by rw [← h1.out]; exact (HBX.out i hin).up HWB.out);have C2:=ι (show CL w0 lb (lo+k) (.int .i64 ((a2:Nat):Int)) by rw [← h2.out]; exact (HBX.out k hkD).up HWB.out);have C3:=ι (show CL w0 lb (lo+fi) (.int .i64 ((a3:Nat):Int)) by rw [← h3.out]; exact (HBX.out fi hfiD).up HWB.out);have C4:=ι (show CL w0 lb (lo+fk) (.int .i64 ((a4:Nat):Int)) by rw [← h4.out]; exact (HBX.out fk hfkD).up HWB.out);have U1:=ι (show CL w0 ub (uo+i) (.int .i64 ((fi:Nat):Int)) by rw [← hfi.out]; exact HUX.out i hin);have U2:=ι (show CL w0 ub (uo+k) (.int .i64 ((fk:Nat):Int)) by rw [← hfk.out]; exact HUX.out k hkD)
         have HFI:=ι hfiD;have HFK:=ι hfkD;obtain ⟨t1,ht1⟩:∃ t,Hid (decide (a1=a2)=t):=⟨_,ι rfl⟩;obtain ⟨t2,ht2⟩:∃ t,Hid (decide (a3=a4)=t):=⟨_,ι rfl⟩;have HE1:=ι (show decide (((a1:Nat):Int)=((a2:Nat):Int))=t1 by rw [← ht1.out]; exact decide_eq_decide.2 ⟨fun e=>by omega,fun e=>by omega⟩);have HE2:=ι (show decide (((a3:Nat):Int)=((a4:Nat):Int))=t2 by rw [← ht2.out]; exact decide_eq_decide.2 ⟨fun e=>by omega,fun e=>by omega⟩)
         by_cases htt:t1=t2
         ·have HTT:=ι (show (t1 != t2)=false by rw [htt]; cases t2 <;> rfl)
          have SJ2:=ι (SJ.out.nextK (show SyQ gs L s i k by
           unfold SyQ
           rw [hfi.out,hfk.out,h1.out,h2.out,h3.out,h4.out,← decide_eq_decide,ht1.out,ht2.out,htt]))
          go_upto_region 18 with (fail);refine wp_region_list ?_;refine Rg.lm 55 (.int .i64 ((k:Nat):Int)) ?_;go_frame;refine Rg.lm 56 (.int .i64 ((i:Nat):Int)) ?_;go_frame;refine Rg.lr 57 (exec_bin (R:=.bool true) .lss _ _ _ rfl rfl rfl (b_lss _ (decide_eq_true (by omega)))) ?_;go_frame;go_upto_region 20 with (fail);have hV0:Below wg.heap.size wg wg.drew:=(Below.refl _ _).drew;replace K:=ι (Rg.acc K.out hV0);clear hV0;refine Rg.Any.begin (S:=Rg.Both 32 (fun _=>True) (fun W=>Below w0.heap.size w0 W)) mix ?_;generalize wg.drew=w131 at *;have hS:∀ (l:Array Bool) W,Below w0.heap.size w0 W→Rg.Both 32 (fun _=>True) (fun W=>Below w0.heap.size w0 W) l W:=fun l W h=>⟨.inr trivial,h⟩;have hI:=K.out;refine Rg.tm 0 32 (.slice (some ⟨lb,lo,none⟩) D lc) 60 (hS _ _ hI) ?_;go_frame;refine Rg.tm 1 32 (.int .i64 ((i:Nat):Int)) 61 (hS _ _ hI) ?_;go_frame;refine Rg.tg 2 32 (.pointer (some ⟨lb,lo+i,none⟩)) 62 rfl rfl (Rg.yields_index slInts _ _ rfl rfl lb (lo) (D) lc (i) rfl rfl hin) (hS _ _ hI) ?_;go_frame
          refine Rg.tg 3 32 (.int .i64 ((a1:Nat):Int)) 63 rfl rfl (Rg.yields_cell _ _ rfl rfl ⟨lb,lo+i,none⟩ rfl (fun W hW=>run_loadInt ((Below.cell (p:=⟨lb,lo+i,none⟩) hW C1.out.lt).trans C1.out.cell))) (hS _ _ hI) ?_;go_frame;refine Rg.tm 4 32 (.slice (some ⟨lb,lo,none⟩) D lc) 64 (hS _ _ hI) ?_;go_frame;refine Rg.tm 5 32 (.int .i64 ((k:Nat):Int)) 65 (hS _ _ hI) ?_;go_frame;refine Rg.tg 6 32 (.pointer (some ⟨lb,lo+k,none⟩)) 66 rfl rfl (Rg.yields_index slInts _ _ rfl rfl lb (lo) (D) lc (k) rfl rfl hkD) (hS _ _ hI) ?_;go_frame;refine Rg.tg 7 32 (.int .i64 ((a2:Nat):Int)) 67 rfl rfl (Rg.yields_cell _ _ rfl rfl ⟨lb,lo+k,none⟩ rfl (fun W hW=>run_loadInt ((Below.cell (p:=⟨lb,lo+k,none⟩) hW C2.out.lt).trans C2.out.cell))) (hS _ _ hI) ?_;go_frame;refine Rg.tg 8 32 (.bool t1) 68 rfl rfl (.inl ⟨rfl,fun w _=>exec_bin (R:=.bool t1) .eql _ _ _ rfl rfl rfl (b_eql _ HE1.out)⟩) (hS _ _ hI) ?_;go_frame
          refine Rg.tm 9 32 (.slice (some ⟨lb,lo,none⟩) D lc) 69 (hS _ _ hI) ?_;go_frame;refine Rg.tg 10 32 (.pointer (some ⟨gb,1,none⟩)) 70 rfl rfl (.inl ⟨rfl,fun w _=>exec_fieldG _ rfl rfl⟩) (hS _ _ hI) ?_;go_frame;refine Rg.tg 11 32 (.slice (some ⟨rb,ro,none⟩) gs.length gc) 71 rfl rfl (Rg.yields_cell _ _ rfl rfl ⟨gb,1,none⟩ rfl (fun W hW=>Rg.run_loadSl _ _ Tryz.underlying22 ((Below.cell (p:=⟨gb,1,none⟩) hW G1.out.lt).trans G1.out.cell))) (hS _ _ hI) ?_;go_frame;refine Rg.tm 12 32 (.int .i64 ((s:Nat):Int)) 72 (hS _ _ hI) ?_;go_frame;refine Rg.tg 13 32 (.pointer (some ⟨rb,ro+s,none⟩)) 73 rfl rfl (Rg.yields_index slPerms _ _ rfl rfl rb (ro) (gs.length) gc (s) rfl rfl hsl) (hS _ _ hI) ?_;go_frame;refine Rg.tg 14 32 (.slice (some ⟨ub,uo,none⟩) D uc) 74 rfl rfl (Rg.yields_cell _ _ rfl rfl ⟨rb,ro+s,none⟩ rfl (fun W hW=>Rg.run_loadSl _ _ Tryz.underlying51 ((Below.cell (p:=⟨rb,ro+s,none⟩) hW HGC.out.lt).trans HGC.out.cell))) (hS _ _ hI) ?_;go_frame
          refine Rg.tm 15 32 (.int .i64 ((i:Nat):Int)) 75 (hS _ _ hI) ?_;go_frame;refine Rg.tg 16 32 (.pointer (some ⟨ub,uo+i,none⟩)) 76 rfl rfl (Rg.yields_index slPerm _ _ rfl rfl ub (uo) (D) uc (i) rfl rfl hin) (hS _ _ hI) ?_;go_frame;refine Rg.tg 17 32 (.int .i64 ((fi:Nat):Int)) 77 rfl rfl (Rg.yields_cell _ _ rfl rfl ⟨ub,uo+i,none⟩ rfl (fun W hW=>run_loadInt ((Below.cell (p:=⟨ub,uo+i,none⟩) hW U1.out.lt).trans U1.out.cell))) (hS _ _ hI) ?_;go_frame;refine Rg.tg 18 32 (.pointer (some ⟨lb,lo+fi,none⟩)) 78 rfl rfl (Rg.yields_index slInts _ _ rfl rfl lb (lo) (D) lc (fi) rfl rfl HFI.out) (hS _ _ hI) ?_;go_frame;refine Rg.tg 19 32 (.int .i64 ((a3:Nat):Int)) 79 rfl rfl (Rg.yields_cell _ _ rfl rfl ⟨lb,lo+fi,none⟩ rfl (fun W hW=>run_loadInt ((Below.cell (p:=⟨lb,lo+fi,none⟩) hW C3.out.lt).trans C3.out.cell))) (hS _ _ hI) ?_;go_frame;refine Rg.tm 20 32 (.slice (some ⟨lb,lo,none⟩) D lc) 80 (hS _ _ hI) ?_;go_frame
          refine Rg.tg 21 32 (.pointer (some ⟨gb,1,none⟩)) 81 rfl rfl (.inl ⟨rfl,fun w _=>exec_fieldG _ rfl rfl⟩) (hS _ _ hI) ?_;go_frame;refine Rg.tg 22 32 (.slice (some ⟨rb,ro,none⟩) gs.length gc) 82 rfl rfl (Rg.yields_cell _ _ rfl rfl ⟨gb,1,none⟩ rfl (fun W hW=>Rg.run_loadSl _ _ Tryz.underlying22 ((Below.cell (p:=⟨gb,1,none⟩) hW G1.out.lt).trans G1.out.cell))) (hS _ _ hI) ?_;go_frame;refine Rg.tm 23 32 (.int .i64 ((s:Nat):Int)) 83 (hS _ _ hI) ?_;go_frame;refine Rg.tg 24 32 (.pointer (some ⟨rb,ro+s,none⟩)) 84 rfl rfl (Rg.yields_index slPerms _ _ rfl rfl rb (ro) (gs.length) gc (s) rfl rfl hsl) (hS _ _ hI) ?_;go_frame;refine Rg.tg 25 32 (.slice (some ⟨ub,uo,none⟩) D uc) 85 rfl rfl (Rg.yields_cell _ _ rfl rfl ⟨rb,ro+s,none⟩ rfl (fun W hW=>Rg.run_loadSl _ _ Tryz.underlying51 ((Below.cell (p:=⟨rb,ro+s,none⟩) hW HGC.out.lt).trans HGC.out.cell))) (hS _ _ hI) ?_;go_frame
          refine Rg.tm 26 32 (.int .i64 ((k:Nat):Int)) 86 (hS _ _ hI) ?_;go_frame;refine Rg.tg 27 32 (.pointer (some ⟨ub,uo+k,none⟩)) 87 rfl rfl (Rg.yields_index slPerm _ _ rfl rfl ub (uo) (D) uc (k) rfl rfl hkD) (hS _ _ hI) ?_;go_frame;refine Rg.tg 28 32 (.int .i64 ((fk:Nat):Int)) 88 rfl rfl (Rg.yields_cell _ _ rfl rfl ⟨ub,uo+k,none⟩ rfl (fun W hW=>run_loadInt ((Below.cell (p:=⟨ub,uo+k,none⟩) hW U2.out.lt).trans U2.out.cell))) (hS _ _ hI) ?_;go_frame;refine Rg.tg 29 32 (.pointer (some ⟨lb,lo+fk,none⟩)) 89 rfl rfl (Rg.yields_index slInts _ _ rfl rfl lb (lo) (D) lc (fk) rfl rfl HFK.out) (hS _ _ hI) ?_;go_frame;refine Rg.tg 30 32 (.int .i64 ((a4:Nat):Int)) 90 rfl rfl (Rg.yields_cell _ _ rfl rfl ⟨lb,lo+fk,none⟩ rfl (fun W hW=>run_loadInt ((Below.cell (p:=⟨lb,lo+fk,none⟩) hW C4.out.lt).trans C4.out.cell))) (hS _ _ hI) ?_;go_frame;refine Rg.tg 31 32 (.bool t2) 91 rfl rfl (.inl ⟨rfl,fun w _=>exec_bin (R:=.bool t2) .eql _ _ _ rfl rfl rfl (b_eql _ HE2.out)⟩) (hS _ _ hI) ?_;go_frame
          refine Rg.Any.one (i:=32) (by kernel_rfl) (Rg.Any.run (some 92) rfl rfl rfl (exec_neqB _ _ rfl rfl rfl HTT.out) (hS _ _ hI) ?_);go_frame;refine Rg.Any.done (by kernel_rfl) ?_ _;replace K:=ι hI;clear hS hI;go_upto_region 19 with (fail);refine wp_region_list ?_;refine Rg.lm 58 (.int .i64 ((k:Nat):Int)) ?_;go_frame;refine Rg.lr 59 (exec_bin (R:=.int .i64 (((k+1):Nat):Int)) .add _ _ _ rfl rfl rfl (b_add _ (by omega) (by omega))) ?_;go_frame;refine Rg.la 9 (.int .i64 (((k+1):Nat):Int)) ?_;go_frame;go_wp2
          go_roundw
          case rel=>exact ⟨k+1,by go_num,HKI.out,SJ2,K⟩
          case measure=>simp [intOf]; have:=HKI.out; omega
         ·have HTT:=ι (show (t1 != t2)=true by revert htt; cases t1 <;> cases t2 <;> simp)
          have HBAD:=ι (SyQ.bad HGG.out HLL.out HR.out hsl hin hki (show ¬ SyQ gs L s i k by
           unfold SyQ;rw [hfi.out,hfk.out,h1.out,h2.out,h3.out,h4.out,← decide_eq_decide,ht1.out,ht2.out]
           exact htt))
          go_upto_region 18 with (fail);refine wp_region_list ?_;refine Rg.lm 55 (.int .i64 ((k:Nat):Int)) ?_;go_frame;refine Rg.lm 56 (.int .i64 ((i:Nat):Int)) ?_;go_frame;refine Rg.lr 57 (exec_bin (R:=.bool true) .lss _ _ _ rfl rfl rfl (b_lss _ (decide_eq_true (by omega)))) ?_;go_frame;go_upto_region 20 with (fail);have hV0:Below wg.heap.size wg wg.drew:=(Below.refl _ _).drew;replace K:=ι (Rg.acc K.out hV0);clear hV0;refine Rg.Any.begin (S:=Rg.Both 32 (fun _=>True) (fun W=>Below w0.heap.size w0 W)) mix ?_;generalize wg.drew=w151 at *;have hS:∀ (l:Array Bool) W,Below w0.heap.size w0 W→Rg.Both 32 (fun _=>True) (fun W=>Below w0.heap.size w0 W) l W:=fun l W h=>⟨.inr trivial,h⟩;have hI:=K.out;refine Rg.tm 0 32 (.slice (some ⟨lb,lo,none⟩) D lc) 60 (hS _ _ hI) ?_;go_frame;refine Rg.tm 1 32 (.int .i64 ((i:Nat):Int)) 61 (hS _ _ hI) ?_;go_frame;refine Rg.tg 2 32 (.pointer (some ⟨lb,lo+i,none⟩)) 62 rfl rfl (Rg.yields_index slInts _ _ rfl rfl lb (lo) (D) lc (i) rfl rfl hin) (hS _ _ hI) ?_;go_frame
          refine Rg.tg 3 32 (.int .i64 ((a1:Nat):Int)) 63 rfl rfl (Rg.yields_cell _ _ rfl rfl ⟨lb,lo+i,none⟩ rfl (fun W hW=>run_loadInt ((Below.cell (p:=⟨lb,lo+i,none⟩) hW C1.out.lt).trans C1.out.cell))) (hS _ _ hI) ?_;go_frame;refine Rg.tm 4 32 (.slice (some ⟨lb,lo,none⟩) D lc) 64 (hS _ _ hI) ?_;go_frame;refine Rg.tm 5 32 (.int .i64 ((k:Nat):Int)) 65 (hS _ _ hI) ?_;go_frame;refine Rg.tg 6 32 (.pointer (some ⟨lb,lo+k,none⟩)) 66 rfl rfl (Rg.yields_index slInts _ _ rfl rfl lb (lo) (D) lc (k) rfl rfl hkD) (hS _ _ hI) ?_;go_frame;refine Rg.tg 7 32 (.int .i64 ((a2:Nat):Int)) 67 rfl rfl (Rg.yields_cell _ _ rfl rfl ⟨lb,lo+k,none⟩ rfl (fun W hW=>run_loadInt ((Below.cell (p:=⟨lb,lo+k,none⟩) hW C2.out.lt).trans C2.out.cell))) (hS _ _ hI) ?_;go_frame;refine Rg.tg 8 32 (.bool t1) 68 rfl rfl (.inl ⟨rfl,fun w _=>exec_bin (R:=.bool t1) .eql _ _ _ rfl rfl rfl (b_eql _ HE1.out)⟩) (hS _ _ hI) ?_;go_frame
          refine Rg.tm 9 32 (.slice (some ⟨lb,lo,none⟩) D lc) 69 (hS _ _ hI) ?_;go_frame;refine Rg.tg 10 32 (.pointer (some ⟨gb,1,none⟩)) 70 rfl rfl (.inl ⟨rfl,fun w _=>exec_fieldG _ rfl rfl⟩) (hS _ _ hI) ?_;go_frame;refine Rg.tg 11 32 (.slice (some ⟨rb,ro,none⟩) gs.length gc) 71 rfl rfl (Rg.yields_cell _ _ rfl rfl ⟨gb,1,none⟩ rfl (fun W hW=>Rg.run_loadSl _ _ Tryz.underlying22 ((Below.cell (p:=⟨gb,1,none⟩) hW G1.out.lt).trans G1.out.cell))) (hS _ _ hI) ?_;go_frame;refine Rg.tm 12 32 (.int .i64 ((s:Nat):Int)) 72 (hS _ _ hI) ?_;go_frame;refine Rg.tg 13 32 (.pointer (some ⟨rb,ro+s,none⟩)) 73 rfl rfl (Rg.yields_index slPerms _ _ rfl rfl rb (ro) (gs.length) gc (s) rfl rfl hsl) (hS _ _ hI) ?_;go_frame;refine Rg.tg 14 32 (.slice (some ⟨ub,uo,none⟩) D uc) 74 rfl rfl (Rg.yields_cell _ _ rfl rfl ⟨rb,ro+s,none⟩ rfl (fun W hW=>Rg.run_loadSl _ _ Tryz.underlying51 ((Below.cell (p:=⟨rb,ro+s,none⟩) hW HGC.out.lt).trans HGC.out.cell))) (hS _ _ hI) ?_;go_frame
          refine Rg.tm 15 32 (.int .i64 ((i:Nat):Int)) 75 (hS _ _ hI) ?_;go_frame;refine Rg.tg 16 32 (.pointer (some ⟨ub,uo+i,none⟩)) 76 rfl rfl (Rg.yields_index slPerm _ _ rfl rfl ub (uo) (D) uc (i) rfl rfl hin) (hS _ _ hI) ?_;go_frame;refine Rg.tg 17 32 (.int .i64 ((fi:Nat):Int)) 77 rfl rfl (Rg.yields_cell _ _ rfl rfl ⟨ub,uo+i,none⟩ rfl (fun W hW=>run_loadInt ((Below.cell (p:=⟨ub,uo+i,none⟩) hW U1.out.lt).trans U1.out.cell))) (hS _ _ hI) ?_;go_frame;refine Rg.tg 18 32 (.pointer (some ⟨lb,lo+fi,none⟩)) 78 rfl rfl (Rg.yields_index slInts _ _ rfl rfl lb (lo) (D) lc (fi) rfl rfl HFI.out) (hS _ _ hI) ?_;go_frame;refine Rg.tg 19 32 (.int .i64 ((a3:Nat):Int)) 79 rfl rfl (Rg.yields_cell _ _ rfl rfl ⟨lb,lo+fi,none⟩ rfl (fun W hW=>run_loadInt ((Below.cell (p:=⟨lb,lo+fi,none⟩) hW C3.out.lt).trans C3.out.cell))) (hS _ _ hI) ?_;go_frame;refine Rg.tm 20 32 (.slice (some ⟨lb,lo,none⟩) D lc) 80 (hS _ _ hI) ?_;go_frame
          refine Rg.tg 21 32 (.pointer (some ⟨gb,1,none⟩)) 81 rfl rfl (.inl ⟨rfl,fun w _=>exec_fieldG _ rfl rfl⟩) (hS _ _ hI) ?_;go_frame;refine Rg.tg 22 32 (.slice (some ⟨rb,ro,none⟩) gs.length gc) 82 rfl rfl (Rg.yields_cell _ _ rfl rfl ⟨gb,1,none⟩ rfl (fun W hW=>Rg.run_loadSl _ _ Tryz.underlying22 ((Below.cell (p:=⟨gb,1,none⟩) hW G1.out.lt).trans G1.out.cell))) (hS _ _ hI) ?_;go_frame;refine Rg.tm 23 32 (.int .i64 ((s:Nat):Int)) 83 (hS _ _ hI) ?_;go_frame;refine Rg.tg 24 32 (.pointer (some ⟨rb,ro+s,none⟩)) 84 rfl rfl (Rg.yields_index slPerms _ _ rfl rfl rb (ro) (gs.length) gc (s) rfl rfl hsl) (hS _ _ hI) ?_;go_frame;refine Rg.tg 25 32 (.slice (some ⟨ub,uo,none⟩) D uc) 85 rfl rfl (Rg.yields_cell _ _ rfl rfl ⟨rb,ro+s,none⟩ rfl (fun W hW=>Rg.run_loadSl _ _ Tryz.underlying51 ((Below.cell (p:=⟨rb,ro+s,none⟩) hW HGC.out.lt).trans HGC.out.cell))) (hS _ _ hI) ?_;go_frame
          refine Rg.tm 26 32 (.int .i64 ((k:Nat):Int)) 86 (hS _ _ hI) ?_;go_frame;refine Rg.tg 27 32 (.pointer (some ⟨ub,uo+k,none⟩)) 87 rfl rfl (Rg.yields_index slPerm _ _ rfl rfl ub (uo) (D) uc (k) rfl rfl hkD) (hS _ _ hI) ?_;go_frame;refine Rg.tg 28 32 (.int .i64 ((fk:Nat):Int)) 88 rfl rfl (Rg.yields_cell _ _ rfl rfl ⟨ub,uo+k,none⟩ rfl (fun W hW=>run_loadInt ((Below.cell (p:=⟨ub,uo+k,none⟩) hW U2.out.lt).trans U2.out.cell))) (hS _ _ hI) ?_;go_frame;refine Rg.tg 29 32 (.pointer (some ⟨lb,lo+fk,none⟩)) 89 rfl rfl (Rg.yields_index slInts _ _ rfl rfl lb (lo) (D) lc (fk) rfl rfl HFK.out) (hS _ _ hI) ?_;go_frame;refine Rg.tg 30 32 (.int .i64 ((a4:Nat):Int)) 90 rfl rfl (Rg.yields_cell _ _ rfl rfl ⟨lb,lo+fk,none⟩ rfl (fun W hW=>run_loadInt ((Below.cell (p:=⟨lb,lo+fk,none⟩) hW C4.out.lt).trans C4.out.cell))) (hS _ _ hI) ?_;go_frame;refine Rg.tg 31 32 (.bool t2) 91 rfl rfl (.inl ⟨rfl,fun w _=>exec_bin (R:=.bool t2) .eql _ _ _ rfl rfl rfl (b_eql _ HE2.out)⟩) (hS _ _ hI) ?_;go_frame
          refine Rg.Any.one (i:=32) (by kernel_rfl) (Rg.Any.run (some 92) rfl rfl rfl (exec_neqB _ _ rfl rfl rfl HTT.out) (hS _ _ hI) ?_);go_frame;refine Rg.Any.done (by kernel_rfl) ?_ _;replace K:=ι hI;clear hS hI;go_upto_region 21 with (fail);refine wp_region_list ?_;refine Rg.la 4 (.bool false) ?_;go_frame;go_wp2;go_ret;exact ⟨by rw [HBAD.out]; rfl,Rg.acc HWB.out K.out⟩
end Go.Proofs.YthehbckogieimaaGreat

namespace Go.Proofs.YthehbckogieimaaGreat
open Go.RowKit
open Go.Proofs
open Go.Proofs.Ob
open Go.Proofs.Cm (Gd ap Gr St IsChain)
theorem Bk_zero {L:List Nat} (h:Bk.rgc L 0) (hl:0<L.length):L.getD 0 0=0:=by
 match L,hl,h with
 | x :: l,_,h=>exact Nat.le_zero.1 h.1
theorem Bk_all0 {L:List Nat} {D:Nat} (h:Bk.rgc L 0) (hl:L.length=D) (h0:∀ i,i<D→L.getD 0 0=L.getD i 0):∀ x∈L,x=0:=fun x hx=>by
 obtain ⟨i,hi,rfl⟩:=List.getElem_of_mem hx;have h1:=h0 i (by omega);rw [Bk_zero h (by omega),Bk.getD_lt hi] at h1;exact h1.symm
theorem lab_ex (n:Nat) (E:Nat→Nat→Prop) (e1:∀ a,E a a) (e2:∀ a b,E a b→E b a) (e3:∀ a b c,E a b→E b c→E a c):∃ L,Bk.IsLab n E L:=by
 induction n with
 | zero=>exact ⟨[],rfl,trivial,fun i j h=>absurd h (Nat.not_lt_zero _)⟩
 | succ n ih =>
  obtain ⟨L,h1,h2,h3⟩:=ih
  have key:∀ x,x≤Bk.mny L 0→(∀ j,j<n→(L.getD j 0=x↔E j n))→∃ L',Bk.IsLab (n+1) E L':=fun x hx hE=>by
   refine ⟨L++[x],by simp [h1],(Bk.rgc_snoc _ _ _).2 ⟨h2,hx⟩,fun i j hi hj=>?_⟩
   have ga:∀ q,q<n→(L++[x]).getD q 0=L.getD q 0:=fun q hq=>by
    rw [List.getD_eq_getElem?_getD,List.getElem?_append_left (by omega),← List.getD_eq_getElem?_getD]
   have gb:(L++[x]).getD n 0=x:=by
    rw [List.getD_eq_getElem?_getD,List.getElem?_append_right (by omega),h1];simp
   by_cases hin:i<n
   ·by_cases hjn:j<n
    ·rw [ga i hin,ga j hjn]; exact h3 i j hin hjn
    ·obtain rfl:j=n:=by omega
     rw [ga i hin,gb]; exact hE i hin
   ·obtain rfl:i=n:=by omega
    by_cases hjn:j<i
    ·rw [ga j hjn,gb]
     exact ⟨fun e=>e2 _ _ ((hE j hjn).1 e.symm),fun e=>((hE j hjn).2 (e2 _ _ e)).symm⟩
    ·obtain rfl:j=i:=by omega
     exact ⟨fun _=>e1 _,fun _=>rfl⟩
  by_cases hx:∃ j,j<n∧E j n
  ·obtain ⟨j,hj,he⟩:=hx
   have hm:L.getD j 0<Bk.mny L 0:=(Bk.rgc_mem h2 _).1 (.inr (by rw [Bk.getD_lt (by omega)]; exact List.getElem_mem _));exact key (L.getD j 0) (Nat.le_of_lt hm) fun i hi=>⟨fun e=>e3 _ _ _ ((h3 i j hi hj).1 e) he,fun e=>(h3 i j hi hj).2 (e3 _ _ _ e (e2 _ _ he))⟩
  ·refine key (Bk.mny L 0) (Nat.le_refl _) fun i hi=>⟨fun e=>?_,fun e=>absurd ⟨i,hi,e⟩ hx⟩
   have hm:L.getD i 0<Bk.mny L 0:=(Bk.rgc_mem h2 _).1 (.inr (by rw [Bk.getD_lt (by omega)]; exact List.getElem_mem _));omega
theorem br_ex (n m:Nat) (f:Nat→Nat→Nat) (P:Nat→Nat→Prop):∃ L,Bk.IsLab n (Bk.BR m f P) L:=lab_ex n _ (fun _=>.refl _) (fun _ _=>.symm) (fun _ _ _=>.trans)
theorem trn_rc {gs:List (List Nat)} {D:Nat} (hg:GG D gs) (hD:1≤D):trn gs D=true↔∀ x,x<D→Rc gs 0 x:=by
 have hok:=tree_ok (p:=0) hg.cl hD;have hnd:(pts (tree gs D 0)).Nodup:=hok.nd;have hlt:∀ x∈pts (tree gs D 0),x<D:=hok.lt
 have hlen:(pts (tree gs D 0)).length=(tree gs D 0).length:=by unfold pts; rw [List.length_map]
 unfold trn;rw [decide_eq_true_iff,← hlen]
 constructor
 ·intro e x hx
  refine (tree_rc hg.cl hD).1 ?_;refine Classical.byContradiction fun hn=>?_
  have h1:=nodup_le (m:=(List.range D).erase x) hnd fun y hy=>by
   rw [List.Nodup.mem_erase_iff List.nodup_range];exact ⟨fun e2=>hn (e2▸hy),List.mem_range.2 (hlt y hy)⟩
  rw [List.length_erase_of_mem (List.mem_range.2 hx),List.length_range] at h1;omega
 ·intro h
  refine Nat.le_antisymm ?_ ?_
  ·have:=nodup_le (m:=List.range D) hnd fun y hy=>List.mem_range.2 (hlt y hy)
   rwa [List.length_range] at this
  ·have:=nodup_le (m:=pts (tree gs D 0)) (List.nodup_range (n:=D)) fun y hy=>(tree_rc hg.cl hD).2 (h y (List.mem_range.1 hy))
   rwa [List.length_range] at this
theorem gr_rc {gs:List (List Nat)} {D:Nat} (hg:GG D gs) (hD:1≤D) {x:List Nat} (hx:Gr D (·∈gs) x):Rc gs 0 (ap x 0):=(tree_rc hg.cl hD).1 (schreier hg hD hx).1
theorem orb0 {gs:List (List Nat)} {D:Nat} {O:List (List Nat)} {R:List (List (List Nat))} (hg:GG D gs) (hD:1≤D) (h:IsChain D (Gr D (·∈gs)) O R):(O.getD 0 []).length=D↔trn gs D=true:=by
 rw [trn_rc hg hD];have hnd:(O.getD 0 []).Nodup:=(h.asc 0 hD).imp fun {a b} h=>Nat.ne_of_lt h;have hgg:∀ s∈gs,Gd D s:=hg
 have hmem:∀ p,p∈O.getD 0 []↔∃ x,Gr D (·∈gs) x∧ap x 0=p:=fun p=>by
  rw [h.orb 0 p hD]
  constructor
  ·rintro ⟨x,hx,e⟩; exact ⟨x,hx.1,e⟩
  ·rintro ⟨x,hx,e⟩; exact ⟨x,⟨hx,fun j hj=>absurd hj (Nat.not_lt_zero _)⟩,e⟩
 have hlt:∀ p∈O.getD 0 [],p<D:=fun p hp=>by
  obtain ⟨x,hx,e⟩:=(hmem p).1 hp;rw [← e];exact Cm.ap_lt ((Cm.Gr.isG hgg).gd _ hx) hD
 constructor
 ·intro e x hx
  have hin:x∈O.getD 0 []:=Classical.byContradiction fun hn=>by
   have h1:=nodup_le (m:=(List.range D).erase x) hnd fun y hy=>by
    rw [List.Nodup.mem_erase_iff List.nodup_range];exact ⟨fun e2=>hn (e2▸hy),List.mem_range.2 (hlt y hy)⟩
   rw [List.length_erase_of_mem (List.mem_range.2 hx),List.length_range] at h1;omega
  obtain ⟨z,hz,e2⟩:=(hmem x).1 hin;rw [← e2]; exact gr_rc hg hD hz
 ·intro ht
  refine Nat.le_antisymm ?_ ?_
  ·have:=nodup_le (m:=List.range D) hnd fun y hy=>List.mem_range.2 (hlt y hy)
   rwa [List.length_range] at this
  ·have:=nodup_le (m:=O.getD 0 []) (List.nodup_range (n:=D)) fun y hy=>by
    have hq:y∈pts (tree gs D 0):=(tree_rc hg.cl hD).2 (ht y (List.mem_range.1 hy));have hu:=uq_ok hg hD hq;exact (hmem y).2 ⟨_,hu.gr,hu.at_⟩
   rwa [List.length_range] at this
theorem tv_zero {gs:List (List Nat)} {D k:Nat} {O:List (List Nat)} {R:List (List (List Nat))} (hg:GG D gs) (hD:1≤D) (h:IsChain D (Gr D (·∈gs)) O R) (ht:TrIs O D k):trn gs D=false↔k=0:=by
 obtain ⟨h1,h2,h3⟩:=ht;have h0:=orb0 hg hD h
 constructor
 ·intro e
  by_cases hk:k=0
  ·exact hk
  ·have:=h0.1 (h2 0 (by omega))
   rw [e] at this; cases this
 ·rintro rfl
  cases e:trn gs D with
  | false=>rfl
  | true =>
   have:=h0.2 e
   rcases h3 with h3 | h3
   ·omega
   ·exact absurd this h3
theorem cnt_fil (L:List Nat) (D c:Nat) (hl:L.length=D):L.count c=((List.range D).filter fun n=>L.getD n 0 == c).length:=by
 have e:L=(List.range D).map fun n=>L.getD n 0:=by
  apply List.ext_getElem
  ·simp [hl]
  ·intro i h1 h2
   rw [List.getElem_map,List.getElem_range,Bk.getD_lt h1]
 conv=>lhs; rw [e]
 rw [List.count_eq_countP,List.countP_map,List.countP_eq_length_filter];rfl
theorem cnt_act {gs L:List (List Nat)} {D:Nat} {M:List Nat} (hg:GG D gs) (hl:M.length=D) (hi:Bk.Inv D gs.length (img gs) M) {s a:Nat} (hs:s<gs.length) (ha:a<D):M.count (M.getD a 0)≤M.count (M.getD (img gs s a) 0):=by
 have hk:=hg _ (List.getElem_mem hs)
 have him:∀ x,x<D→img gs s x=ap (gs[s]'hs) x:=fun x hx=>by
  rw [img_get hs (by rw [hk.2]; exact hx),Cm.ap_at (by rw [hk.2]; exact hx)]
 rw [cnt_fil M D _ hl,cnt_fil M D _ hl,← List.length_map (f:=img gs s)];refine nodup_le ?_ fun y hy=>?_
 ·rw [List.nodup_iff_pairwise_ne,List.pairwise_map]
  refine List.Pairwise.imp_of_mem ?_ (List.nodup_iff_pairwise_ne.1 (List.Nodup.sublist List.filter_sublist (List.nodup_range (n:=D))));intro p q hp hq hne e;have hp':=List.mem_range.1 (List.mem_filter.1 hp).1;have hq':=List.mem_range.1 (List.mem_filter.1 hq).1;rw [him p hp',him q hq'] at e;exact hne (Cm.ap_inj hk hp' hq' e)
 ·obtain ⟨x,hx,rfl⟩:=List.mem_map.1 hy
  obtain ⟨h1,h2⟩:=List.mem_filter.1 hx;have hxD:=List.mem_range.1 h1;rw [beq_iff_eq] at h2;refine List.mem_filter.2 ⟨List.mem_range.2 (img_lt hg s x hs hxD),?_⟩;rw [beq_iff_eq];exact hi s x a hs hxD ha h2
theorem cnt_rc {gs:List (List Nat)} {D p x:Nat} {M:List Nat} (hg:GG D gs) (hl:M.length=D) (hi:Bk.Inv D gs.length (img gs) M) (hp:p<D) (h:Rc gs p x):M.count (M.getD p 0)≤M.count (M.getD x 0):=by
 induction h with
 | base=>exact Nat.le_refl _
 | step hs h ih=>exact Nat.le_trans ih (cnt_act (L:=gs) hg hl hi hs (h.lt hg hp))
theorem cnt_same {gs:List (List Nat)} {D c:Nat} {M:List Nat} (hg:GG D gs) (hD:1≤D) (ht:trn gs D=true) (hl:M.length=D) (hr:Bk.rgc M 0) (hi:Bk.Inv D gs.length (img gs) M) (hc:M.count c≠0):M.count c=M.count 0:=by
 have hm:c∈M:=List.count_pos_iff.1 (Nat.pos_of_ne_zero hc);obtain ⟨x,hx,rfl⟩:=List.getElem_of_mem hm
 have hxD:x<D:=by omega
 have hrc:=(trn_rc hg hD).1 ht x hxD;have h1:=cnt_rc hg hl hi hD hrc;have h2:=cnt_rc hg hl hi hxD (hrc.symm hg hD);rw [Bk_zero hr (by omega),Bk.getD_lt hx] at h1 h2;omega
def lenOk (D:Nat) (L:List Nat):Bool:=((List.range D).all fun c=>L.count c == 0 || L.count c == L.count 0) && decide (2≤L.count 0)
theorem prime_2:∀ L∈Bk.rgL 2 0,lenOk 2 L=true→L=List.replicate 2 0:=by decide +kernel
theorem prime_3:∀ L∈Bk.rgL 3 0,lenOk 3 L=true→L=List.replicate 3 0:=by decide +kernel
theorem prime_5:∀ L∈Bk.rgL 5 0,lenOk 5 L=true→L=List.replicate 5 0:=by decide +kernel
theorem prime_7:∀ L∈Bk.rgL 7 0,lenOk 7 L=true→L=List.replicate 7 0:=by decide +kernel
theorem prime_all {D:Nat} (hD:D=2∨D=3∨D=5∨D=7) {L:List Nat} (hl:L.length=D) (hr:Bk.rgc L 0) (h:lenOk D L=true):∀ x∈L,x=0:=by
 have hm:=Bk.mem_rgL D 0 L hl hr
 have key:L=List.replicate D 0:=by
  rcases hD with rfl | rfl | rfl | rfl
  ·exact prime_2 L hm h
  ·exact prime_3 L hm h
  ·exact prime_5 L hm h
  ·exact prime_7 L hm h
 intro x hx;rw [key] at hx;exact List.eq_of_mem_replicate hx
theorem lab_len {gs:List (List Nat)} {D p:Nat} {M:List Nat} (hg:GG D gs) (hD:1≤D) (ht:trn gs D=true) (hp:0<p) (hpD:p<D) (hM:Bk.IsLab D (Bk.BR gs.length (img gs) (Bk.onep 0 p)) M):lenOk D M=true:=by
 have hi:Bk.Inv D gs.length (img gs) M:=fun s a b hs ha hb e=>(hM.ker _ _ (img_lt hg s a hs ha) (img_lt hg s b hs hb)).2 (.act hs ((hM.ker a b ha hb).1 e));unfold lenOk;rw [Bool.and_eq_true,List.all_eq_true];refine ⟨fun c _=>?_,decide_eq_true ?_⟩
 ·by_cases hc:M.count c=0
  ·simp [hc]
  ·simp [cnt_same hg hD ht hM.len hM.rg hi hc]
 ·have h0:M.getD 0 0=0:=Bk_zero hM.rg (by rw [hM.len]; omega)
  have h1:M.getD p 0=0:=((hM.ker 0 p hD hpD).2 (.base ⟨rfl,rfl⟩)).symm.trans h0;rw [cnt_fil M D 0 hM.len]
  have:=nodup_le (l:=[0,p]) (m:=(List.range D).filter fun n=>M.getD n 0 == 0) (by simp; omega) fun y hy=>by
   simp at hy
   rcases hy with rfl | rfl
   ·exact List.mem_filter.2 ⟨List.mem_range.2 hD,by rw [h0]; rfl⟩
   ·exact List.mem_filter.2 ⟨List.mem_range.2 hpD,by rw [h1]; rfl⟩
  simpa using this
theorem prime_prim {gs:List (List Nat)} {D:Nat} (hg:GG D gs) (ht:trn gs D=true) (hD:D=2∨D=3∨D=5∨D=7):PrB D gs :=
 ⟨by omega,ht,fun p h0 hp M hM=>prime_all hD hM.len hM.rg (lab_len hg (by omega) ht h0 hp hM)⟩
theorem sys_two {gs T:List (List Nat)} {D:Nat} (hg:GG D gs) (hD:1≤D) (ht:trn gs D=true) (hT:Bk.AllB D gs.length (img gs) T):1≤T.length∧(1<D→2≤T.length)∧(PrB D gs↔1<D∧T.length=2):=by
 obtain ⟨S,hS⟩:=br_ex D gs.length (img gs) (fun _ _=>False);have hST:S∈T:=(hT.2 S).2 (.first hS);have hM:∀ p,p<D→∀ M,Bk.IsLab D (Bk.BR gs.length (img gs) (Bk.onep 0 p)) M→M∈T:=fun p hp M h=>(hT.2 M).2 (Bk.RcB.base (img_lt hg) hS hp h)
 have hne:∀ p,0<p→p<D→∀ M,Bk.IsLab D (Bk.BR gs.length (img gs) (Bk.onep 0 p)) M→M≠S:=fun p h0 hp M h e=>by
  subst e;have h1:Bk.BR gs.length (img gs) (fun _ _=>False) 0 p:=(hS.ker 0 p hD hp).1 ((h.ker 0 p hD hp).2 (.base ⟨rfl,rfl⟩))
  have h2:∀ a b,Bk.BR gs.length (img gs) (fun _ _=>False) a b→a=b:=fun a b h=>by
   induction h with
   | base h=>exact h.elim
   | refl=>rfl
   | symm _ ih=>exact ih.symm
   | trans _ _ i1 i2=>exact i1.trans i2
   | act _ _ ih=>rw [ih]
  have:=h2 0 p h1;omega
 have h1:1≤T.length:=List.length_pos_of_mem hST
 have h2:1<D→2≤T.length:=fun hd=>by
  obtain ⟨M,h⟩:=br_ex D gs.length (img gs) (Bk.onep 0 1)
  have:=nodup_le (l:=[M,S]) (m:=T) (by simp; exact hne 1 (by omega) hd M h) fun y hy=>by
   simp at hy
   rcases hy with rfl | rfl
   ·exact hM 1 hd y h
   ·exact hST
  simpa using this
 refine ⟨h1,h2,fun hp=>⟨hp.1,Nat.le_antisymm ?_ (h2 hp.1)⟩,fun ⟨hd,hl⟩=>⟨hd,ht,fun p h0 hp M h=>?_⟩⟩
 ·obtain ⟨Z,hZ⟩:=br_ex D gs.length (img gs) (Bk.onep 0 1)
  have hZ0:=hp.2.2 1 (by omega) hp.1 Z hZ
  have zer:∀ M:List Nat,M.length=D→(∀ x∈M,x=0)→M=Z:=fun M hl h0=>by
   apply List.ext_getElem
   ·rw [hl,hZ.len]
   ·intro i a b
    rw [h0 _ (List.getElem_mem a),hZ0 _ (List.getElem_mem b)]
  have hin:∀ y,Bk.RcB D gs.length (img gs) y→y=S∨y=Z:=fun y hy=>by
   induction hy with
   | first h=>exact .inl (h.uniq hS)
   | @join x b y p hx hp' hb hy ih =>
    by_cases e:p=0
    ·subst e
     have hb0:Bk.Fst0 D gs.length (img gs) b:=Bk.onep_first.1 hb;have hxi:=hx.inv (img_lt hg)
     have h6:Bk.IsLab D (Bk.ker x) y:=hy.congr fun a c ha hc=>by rw [Bk.both_comm]; exact Bk.both_first hb0 hxi.1 (img_lt hg) ha hc
     have h5:Bk.IsLab D (Bk.ker x) x:=⟨hxi.2.1,hxi.2.2,fun _ _ _ _=>Iff.rfl⟩;rw [h6.uniq h5]; exact ih
    ·refine .inr (zer y hy.len (Bk_all0 hy.rg hy.len fun i hi=>(hy.ker 0 i hD hi).2 (.base ⟨⟨hD,hi⟩,.inr ?_⟩)))
     have hb0:=hp.2.2 p (by omega) hp' b hb;unfold Bk.ker;rw [Bk.getD_lt (by rw [hb.len]; exact hD),Bk.getD_lt (by rw [hb.len]; exact hi),hb0 _ (List.getElem_mem _),hb0 _ (List.getElem_mem _)]
  have:=nodup_le (l:=T) (m:=[S,Z]) hT.1 fun y hy=>by
   rcases hin y ((hT.2 y).1 hy) with rfl | rfl <;> simp
  simpa using this
 ·have hall:∀ q,0<q→q<D→∀ M',Bk.IsLab D (Bk.BR gs.length (img gs) (Bk.onep 0 q)) M'→M'=M:=fun q hq0 hq M' h'=>Classical.byContradiction fun hn=>by
   have:=nodup_le (l:=[M',M,S]) (m:=T) (by simp; exact ⟨⟨hn,hne q hq0 hq M' h'⟩,hne p h0 hp M h⟩) fun y hy=>by
    simp at hy
    rcases hy with rfl | rfl | rfl
    ·exact hM q hq y h'
    ·exact hM p hp y h
    ·exact hST
   simp at this; omega
  refine Bk_all0 h.rg h.len fun i hi=>?_
  by_cases e:i=0
  ·rw [e]
  ·obtain ⟨M',h'⟩:=br_ex D gs.length (img gs) (Bk.onep 0 i)
   have e2:=hall i (by omega) hi M' h';rw [← e2];exact (h'.ker 0 i hD hi).2 (.base ⟨rfl,rfl⟩)
theorem inv_gr {gs:List (List Nat)} {D:Nat} {M:List Nat} (hg:GG D gs) (hl:M.length=D) (hr:Bk.rgc M 0) (hi:Bk.Inv D gs.length (img gs) M) {x:List Nat} (hx:Gr D (·∈gs) x):∀ a b,a<D→b<D→(M.getD a 0=M.getD b 0↔M.getD (ap x a) 0=M.getD (ap x b) 0):=by
 have hgg:∀ s∈gs,Gd D s:=hg;have hgd:∀ x,Gr D (·∈gs) x→Gd D x:=fun x h=>(Cm.Gr.isG hgg).gd x h
 induction hx with
 | one=>intro a b ha hb; rw [Cm.ap_one ha,Cm.ap_one hb]
 | gen s h =>
  intro a b ha hb;obtain ⟨i,hi',rfl⟩:=List.getElem_of_mem h;have hk:=hg _ h
  have him:∀ y,y<D→ap (gs[i]'hi') y=img gs i y:=fun y hy=>by
   rw [img_get hi' (by rw [hk.2]; exact hy),Cm.ap_at (by rw [hk.2]; exact hy)]
  rw [him a ha,him b hb];exact ⟨fun e=>hi i a b hi' ha hb e,fun e=>inv_back hg hl hr hi hi' ha hb e⟩
 | mul x y hx hy i1 i2 =>
  intro a b ha hb;rw [Cm.ap_mul (hgd x hx) ha,Cm.ap_mul (hgd x hx) hb];exact (i1 a b ha hb).trans (i2 _ _ (Cm.ap_lt (hgd x hx) ha) (Cm.ap_lt (hgd x hx) hb))
 | inv x hx ih =>
  intro a b ha hb;have hiv:=Cm.gd_inv (hgd x hx);have:=ih (ap (Ma.invN x) a) (ap (Ma.invN x) b) (Cm.ap_lt hiv ha) (Cm.ap_lt hiv hb);rw [Cm.ap_inv2 (hgd x hx) ha,Cm.ap_inv2 (hgd x hx) hb] at this;exact this.symm
theorem two_prim {gs:List (List Nat)} {D k:Nat} {O:List (List Nat)} {R:List (List (List Nat))} (hg:GG D gs) (h:IsChain D (Gr D (·∈gs)) O R) (ht:TrIs O D k) (hk:2≤k):PrB D gs:=by
 obtain ⟨t1,t2,_⟩:=ht
 have hD:2≤D:=by omega
 have hgg:∀ s∈gs,Gd D s:=hg;have hgd:∀ x,Gr D (·∈gs) x→Gd D x:=fun x h=>(Cm.Gr.isG hgg).gd x h;have htr:=(orb0 hg (by omega) h).1 (t2 0 (by omega));have hl1:(O.getD 1 []).length=D - 1:=t2 1 (by omega);have hnd:(O.getD 1 []).Nodup:=(h.asc 1 (by omega)).imp fun {a b} h=>Nat.ne_of_lt h
 have hpt:∀ p,p∈O.getD 1 []→p<D∧p≠0:=fun p hp=>by
  obtain ⟨x,hx,e⟩:=(h.orb 1 p (by omega)).1 hp;refine ⟨by rw [← e]; exact Cm.ap_lt (hgd x hx.1) (by omega),fun e0=>?_⟩;have h0:ap x 0=0:=hx.2 0 (by omega);have:=Cm.ap_inj (hgd x hx.1) (i:=1) (j:=0) (by omega) (by omega) (by rw [e,e0,h0]);omega
 have hto:∀ q,0<q→q<D→∃ x,Gr D (·∈gs) x∧ap x 0=0∧ap x 1=q:=fun q h0 hq=>by
  have hin:q∈O.getD 1 []:=Classical.byContradiction fun hn=>by
   have h1:=nodup_le (m:=(((List.range D).erase 0).erase q)) hnd fun y hy=>by
    have:=hpt y hy;rw [List.Nodup.mem_erase_iff (List.Nodup.erase _ List.nodup_range),List.Nodup.mem_erase_iff List.nodup_range];exact ⟨fun e2=>hn (e2▸hy),this.2,List.mem_range.2 this.1⟩
   rw [List.length_erase_of_mem ((List.Nodup.mem_erase_iff List.nodup_range).2 ⟨by omega,List.mem_range.2 hq⟩),List.length_erase_of_mem (List.mem_range.2 (by omega)),List.length_range] at h1;omega
  obtain ⟨x,hx,e⟩:=(h.orb 1 q (by omega)).1 hin;exact ⟨x,hx.1,hx.2 0 (by omega),e⟩
 refine ⟨hD,htr,fun p h0 hp M hM=>Bk_all0 hM.rg hM.len fun i hi=>?_⟩;have hi0:Bk.Inv D gs.length (img gs) M:=fun s a b hs ha hb e=>(hM.ker _ _ (img_lt hg s a hs ha) (img_lt hg s b hs hb)).2 (.act hs ((hM.ker a b ha hb).1 e));obtain ⟨x,hx,x0,x1⟩:=hto p h0 hp
 have e1:M.getD 0 0=M.getD 1 0:=by
  have:=inv_gr hg hM.len hM.rg hi0 hx 0 1 (by omega) (by omega);rw [x0,x1] at this;exact this.2 ((hM.ker 0 p (by omega) hp).2 (.base ⟨rfl,rfl⟩))
 by_cases ei:i=0
 ·rw [ei]
 ·obtain ⟨z,hz,z0,z1⟩:=hto i (by omega) hi
  have:=inv_gr hg hM.len hM.rg hi0 hz 0 1 (by omega) (by omega);rw [z0,z1] at this;exact this.1 e1
end Go.Proofs.YthehbckogieimaaGreat

namespace Go.Proofs.YthehbckogieimaaGreat
open Go.RowKit
open Go.Proofs
open Go.Proofs.Ob
open Go.Proofs.Cm (Gd)
attribute [local irreducible] Go.Calls Go.wpList
theorem before_yes (D:Nat) (A B:List Nat) (av bv:Value) (w:World) (hD1:1≤D) (hD:D≤64) (ha:Rg.NP w av A) (hb:Rg.NP w bv B) (hal:A.length=D) (hbl:B.length=D) (hf:lessL (Ma.ofN A) (Ma.ofN B)=true) :
  Calls Tryz.prog 31 #[av,bv] w fun e w'=>e=.returned (.bool true)∧Below w.heap.size w w':=by
 obtain ⟨ab,ao,ac,rfl,hax⟩:=NpI.at ⟨ha⟩ hal hD1;obtain ⟨bb,bo,bc,rfl,hbx⟩:=NpI.at ⟨hb⟩ hbl hD1;have HAX:=ι hax;have HBX:=ι hbx;have K:=ι (Below.refl w.heap.size w);have HS:=ι (show lessL ((Ma.ofN A).drop 0) ((Ma.ofN B).drop 0)=true by simpa using hf);have HAL:=ι (show (Ma.ofN A).length=D by rw [Ma.len_ofN]; exact hal);have HBL:=ι (show (Ma.ofN B).length=D by rw [Ma.len_ofN]; exact hbl);clear ha hb hax hbx hf
 go_enter Tryz.func31,Tryz.ntmps31
 go_upto_region 0 with (fail);refine wp_region_list ?_;refine Rg.la 4 (.bool false) ?_;go_frame;go_upto_region 1 with (fail);refine wp_region_list ?_;refine Rg.la 5 (.int .i64 ((0:Nat):Int)) ?_;go_frame;go_wp2
 go_loopw [5] (fun iv wr=>∃ i:Nat,iv=.int .i64 ((i:Nat):Int)∧i≤D∧Hid (lessL ((Ma.ofN A).drop i) ((Ma.ofN B).drop i)=true)∧Hid (Below w.heap.size w wr)) (fun iv _=>D - (intOf iv).toNat)
 case atStart=>exact ⟨0,rfl,Nat.zero_le _,HS,K⟩
 case round =>
  clear HS K;obtain ⟨i,rfl,hi,HS,K⟩:=hrel;generalize wr=wd at *
  by_cases hin:i<D
  case neg =>
   have hbad:False:=by
    have h1:=HS.out;rw [lessL_end (by rw [HAL.out]; omega) (by rw [HAL.out]; omega) (by rw [HBL.out]; omega),HAL.out,HBL.out] at h1;simp at h1
   exact hbad.elim
  case pos =>
   have HIN:=ι hin
   have hiA:i<(Ma.ofN A).length:=by rw [HAL.out]; exact hin
   have hiB:i<(Ma.ofN B).length:=by rw [HBL.out]; exact hin
   have hst:=HS.out;rw [lessL_drop hiA hiB,Ma.get_ofN,Ma.get_ofN] at hst;obtain ⟨a1,h1⟩:∃ x,Hid (A.getD i 0=x):=⟨_,ι rfl⟩;obtain ⟨b1,h3⟩:∃ x,Hid (B.getD i 0=x):=⟨_,ι rfl⟩
   have e1:A[i]'(by rw [hal]; exact hin)=a1:=by rw [← h1.out,Bk.getD_lt (by rw [hal]; exact hin)]
   have e2:B[i]'(by rw [hbl]; exact hin)=b1:=by rw [← h3.out,Bk.getD_lt (by rw [hbl]; exact hin)]
   rw [e1,e2] at hst;have HST:=ι hst;have C1:=ι (show CL w ab (ao+i) (.int .i64 ((a1:Nat):Int)) by rw [← h1.out]; exact HAX.out i hin);have C3:=ι (show CL w bb (bo+i) (.int .i64 ((b1:Nat):Int)) by rw [← h3.out]; exact HBX.out i hin);clear e1 e2 hst hiA hiB
   by_cases hab:a1=b1
   ·have HS2:=ι (show lessL ((Ma.ofN A).drop (i+1)) ((Ma.ofN B).drop (i+1))=true by have h:=HST.out; rwa [if_pos (by omega)] at h)
    go_upto_region 2 with (fail);refine wp_region_list ?_;refine Rg.lm 6 (.int .i64 ((i:Nat):Int)) ?_;go_frame;refine Rg.lm 7 (.slice (some ⟨ab,ao,none⟩) D ac) ?_;go_frame;refine Rg.lr 8 (exec_len _ _ _ rfl Tryz.underlying36 _ _ _ rfl) ?_;go_frame;refine Rg.lr 9 (exec_bin (R:=.bool true) .lss _ _ _ rfl rfl rfl (b_lss _ (decide_eq_true (by omega)))) ?_;go_frame;refine Rg.lm 10 (.bool true) ?_;go_frame;refine listW_run (some 11) rfl rfl (Rg.xm (.int .i64 ((i:Nat):Int)) _ rfl rfl) ?_;go_frame;refine listW_run (some 12) rfl rfl (Rg.xm (.slice (some ⟨bb,bo,none⟩) D bc) _ rfl rfl) ?_;go_frame;refine listW_run (some 13) rfl rfl (exec_len _ _ _ rfl Tryz.underlying36 _ _ _ rfl) ?_;go_frame;refine listW_run (some 14) rfl rfl (exec_bin (R:=.bool true) .lss _ _ _ rfl rfl rfl (b_lss _ (decide_eq_true (by omega)))) ?_;go_frame;refine Rg.lr 15 (exec_pickT (v:=.bool true) _ _ _ rfl rfl rfl) ?_;go_frame
    go_upto_region 4 with (fail);have hV0:Below wd.heap.size wd wd.drew:=(Below.refl _ _).drew;replace K:=ι (Rg.acc K.out hV0);clear hV0;refine Rg.Any.begin (S:=Rg.Both 8 (fun _=>True) (fun W=>Below w.heap.size w W)) mix ?_;generalize wd.drew=w21 at *;have hS:∀ (l:Array Bool) W,Below w.heap.size w W→Rg.Both 8 (fun _=>True) (fun W=>Below w.heap.size w W) l W:=fun l W h=>⟨.inr trivial,h⟩;have hI:=K.out;refine Rg.tm 0 8 (.slice (some ⟨ab,ao,none⟩) D ac) 18 (hS _ _ hI) ?_;go_frame;refine Rg.tm 1 8 (.int .i64 ((i:Nat):Int)) 19 (hS _ _ hI) ?_;go_frame;refine Rg.tg 2 8 (.pointer (some ⟨ab,ao+i,none⟩)) 20 rfl rfl (Rg.yields_index slInts _ _ rfl rfl ab (ao) (D) ac (i) rfl rfl hin) (hS _ _ hI) ?_;go_frame;refine Rg.tg 3 8 (.int .i64 ((a1:Nat):Int)) 21 rfl rfl (Rg.yields_cell _ _ rfl rfl ⟨ab,ao+i,none⟩ rfl (fun W hW=>run_loadInt ((Below.cell (p:=⟨ab,ao+i,none⟩) hW C1.out.lt).trans C1.out.cell))) (hS _ _ hI) ?_;go_frame
    refine Rg.tm 4 8 (.slice (some ⟨bb,bo,none⟩) D bc) 22 (hS _ _ hI) ?_;go_frame;refine Rg.tm 5 8 (.int .i64 ((i:Nat):Int)) 23 (hS _ _ hI) ?_;go_frame;refine Rg.tg 6 8 (.pointer (some ⟨bb,bo+i,none⟩)) 24 rfl rfl (Rg.yields_index slInts _ _ rfl rfl bb (bo) (D) bc (i) rfl rfl hin) (hS _ _ hI) ?_;go_frame;refine Rg.tg 7 8 (.int .i64 ((b1:Nat):Int)) 25 rfl rfl (Rg.yields_cell _ _ rfl rfl ⟨bb,bo+i,none⟩ rfl (fun W hW=>run_loadInt ((Below.cell (p:=⟨bb,bo+i,none⟩) hW C3.out.lt).trans C3.out.cell))) (hS _ _ hI) ?_;go_frame;refine Rg.Any.one (i:=8) (by kernel_rfl) (Rg.Any.run (some 26) rfl rfl rfl (exec_bin (R:=.bool false) .neq _ _ _ rfl rfl rfl (b_neqB _ (decide_eq_false (by omega)))) (hS _ _ hI) ?_);go_frame;refine Rg.Any.done (by kernel_rfl) ?_ _;replace K:=ι hI;clear hS hI;go_upto_region 3 with (fail);refine wp_region_list ?_;refine Rg.lm 16 (.int .i64 ((i:Nat):Int)) ?_;go_frame
    refine Rg.lr 17 (exec_bin (R:=.int .i64 (((i+1):Nat):Int)) .add _ _ _ rfl rfl rfl (b_add _ (by omega) (by omega))) ?_;go_frame;refine Rg.la 5 (.int .i64 (((i+1):Nat):Int)) ?_;go_frame;go_wp2
    go_roundw
    case rel=>exact ⟨i+1,by go_num,HIN.out,HS2,K⟩
    case measure=>simp [intOf]; have:=HIN.out; omega
   ·have HLT:=ι (show a1<b1 by have h:=HST.out; rw [if_neg (by omega)] at h; have:=of_decide_eq_true h; omega)
    go_upto_region 2 with (fail);refine wp_region_list ?_;refine Rg.lm 6 (.int .i64 ((i:Nat):Int)) ?_;go_frame;refine Rg.lm 7 (.slice (some ⟨ab,ao,none⟩) D ac) ?_;go_frame;refine Rg.lr 8 (exec_len _ _ _ rfl Tryz.underlying36 _ _ _ rfl) ?_;go_frame;refine Rg.lr 9 (exec_bin (R:=.bool true) .lss _ _ _ rfl rfl rfl (b_lss _ (decide_eq_true (by omega)))) ?_;go_frame;refine Rg.lm 10 (.bool true) ?_;go_frame;refine listW_run (some 11) rfl rfl (Rg.xm (.int .i64 ((i:Nat):Int)) _ rfl rfl) ?_;go_frame;refine listW_run (some 12) rfl rfl (Rg.xm (.slice (some ⟨bb,bo,none⟩) D bc) _ rfl rfl) ?_;go_frame;refine listW_run (some 13) rfl rfl (exec_len _ _ _ rfl Tryz.underlying36 _ _ _ rfl) ?_;go_frame;refine listW_run (some 14) rfl rfl (exec_bin (R:=.bool true) .lss _ _ _ rfl rfl rfl (b_lss _ (decide_eq_true (by omega)))) ?_;go_frame;refine Rg.lr 15 (exec_pickT (v:=.bool true) _ _ _ rfl rfl rfl) ?_;go_frame
    go_upto_region 4 with (fail);have hV0:Below wd.heap.size wd wd.drew:=(Below.refl _ _).drew;replace K:=ι (Rg.acc K.out hV0);clear hV0;refine Rg.Any.begin (S:=Rg.Both 8 (fun _=>True) (fun W=>Below w.heap.size w W)) mix ?_;generalize wd.drew=w41 at *;have hS:∀ (l:Array Bool) W,Below w.heap.size w W→Rg.Both 8 (fun _=>True) (fun W=>Below w.heap.size w W) l W:=fun l W h=>⟨.inr trivial,h⟩;have hI:=K.out;refine Rg.tm 0 8 (.slice (some ⟨ab,ao,none⟩) D ac) 18 (hS _ _ hI) ?_;go_frame;refine Rg.tm 1 8 (.int .i64 ((i:Nat):Int)) 19 (hS _ _ hI) ?_;go_frame;refine Rg.tg 2 8 (.pointer (some ⟨ab,ao+i,none⟩)) 20 rfl rfl (Rg.yields_index slInts _ _ rfl rfl ab (ao) (D) ac (i) rfl rfl hin) (hS _ _ hI) ?_;go_frame;refine Rg.tg 3 8 (.int .i64 ((a1:Nat):Int)) 21 rfl rfl (Rg.yields_cell _ _ rfl rfl ⟨ab,ao+i,none⟩ rfl (fun W hW=>run_loadInt ((Below.cell (p:=⟨ab,ao+i,none⟩) hW C1.out.lt).trans C1.out.cell))) (hS _ _ hI) ?_;go_frame
    refine Rg.tm 4 8 (.slice (some ⟨bb,bo,none⟩) D bc) 22 (hS _ _ hI) ?_;go_frame;refine Rg.tm 5 8 (.int .i64 ((i:Nat):Int)) 23 (hS _ _ hI) ?_;go_frame;refine Rg.tg 6 8 (.pointer (some ⟨bb,bo+i,none⟩)) 24 rfl rfl (Rg.yields_index slInts _ _ rfl rfl bb (bo) (D) bc (i) rfl rfl hin) (hS _ _ hI) ?_;go_frame;refine Rg.tg 7 8 (.int .i64 ((b1:Nat):Int)) 25 rfl rfl (Rg.yields_cell _ _ rfl rfl ⟨bb,bo+i,none⟩ rfl (fun W hW=>run_loadInt ((Below.cell (p:=⟨bb,bo+i,none⟩) hW C3.out.lt).trans C3.out.cell))) (hS _ _ hI) ?_;go_frame;refine Rg.Any.one (i:=8) (by kernel_rfl) (Rg.Any.run (some 26) rfl rfl rfl (exec_bin (R:=.bool true) .neq _ _ _ rfl rfl rfl (b_neqB _ (decide_eq_true (by omega)))) (hS _ _ hI) ?_);go_frame;refine Rg.Any.done (by kernel_rfl) ?_ _;replace K:=ι hI;clear hS hI;go_upto_region 5 with (fail);have hV0:Below w41.heap.size w41 w41.drew:=(Below.refl _ _).drew
    replace K:=ι (Rg.acc K.out hV0);clear hV0;refine Rg.Any.begin (S:=Rg.Both 9 (fun _=>True) (fun W=>Below w.heap.size w W)) mix ?_;generalize w41.drew=w42 at *;have hS:∀ (l:Array Bool) W,Below w.heap.size w W→Rg.Both 9 (fun _=>True) (fun W=>Below w.heap.size w W) l W:=fun l W h=>⟨.inr trivial,h⟩;have hI:=K.out;refine Rg.tm 0 9 (.slice (some ⟨ab,ao,none⟩) D ac) 27 (hS _ _ hI) ?_;go_frame;refine Rg.tm 1 9 (.int .i64 ((i:Nat):Int)) 28 (hS _ _ hI) ?_;go_frame;refine Rg.tg 2 9 (.pointer (some ⟨ab,ao+i,none⟩)) 29 rfl rfl (Rg.yields_index slInts _ _ rfl rfl ab (ao) (D) ac (i) rfl rfl hin) (hS _ _ hI) ?_;go_frame;refine Rg.tg 3 9 (.int .i64 ((a1:Nat):Int)) 30 rfl rfl (Rg.yields_cell _ _ rfl rfl ⟨ab,ao+i,none⟩ rfl (fun W hW=>run_loadInt ((Below.cell (p:=⟨ab,ao+i,none⟩) hW C1.out.lt).trans C1.out.cell))) (hS _ _ hI) ?_;go_frame;refine Rg.tm 4 9 (.slice (some ⟨bb,bo,none⟩) D bc) 31 (hS _ _ hI) ?_;go_frame
    refine Rg.tm 5 9 (.int .i64 ((i:Nat):Int)) 32 (hS _ _ hI) ?_;go_frame;refine Rg.tg 6 9 (.pointer (some ⟨bb,bo+i,none⟩)) 33 rfl rfl (Rg.yields_index slInts _ _ rfl rfl bb (bo) (D) bc (i) rfl rfl hin) (hS _ _ hI) ?_;go_frame;refine Rg.tg 7 9 (.int .i64 ((b1:Nat):Int)) 34 rfl rfl (Rg.yields_cell _ _ rfl rfl ⟨bb,bo+i,none⟩ rfl (fun W hW=>run_loadInt ((Below.cell (p:=⟨bb,bo+i,none⟩) hW C3.out.lt).trans C3.out.cell))) (hS _ _ hI) ?_;go_frame;refine Rg.tg 8 9 (.bool true) 35 rfl rfl (.inl ⟨rfl,fun w _=>exec_bin (R:=.bool true) .lss _ _ _ rfl rfl rfl (b_lss _ (decide_eq_true (by have:=HLT.out; omega)))⟩) (hS _ _ hI) ?_;go_frame;refine Rg.Any.one (i:=9) (by kernel_rfl) (Rg.Any.run (some 4) rfl rfl rfl (Rg.xa (.bool true) _ rfl rfl) (hS _ _ hI) ?_);go_frame;refine Rg.Any.done (by kernel_rfl) ?_ _;replace K:=ι hI;clear hS hI;go_wp2;go_ret;exact ⟨rfl,K.out⟩
theorem all_at {D:Nat} {gs:List (List Nat)} (hz:Ma.gchk ((D:Nat):Int) (gs.map Ma.ofN)=0) (ht:trn gs D=true) (hD:D≤10) (gv:Value) (w:World) (h:Rg.Rows w gv (gs.map Ma.ofN)) :
  Calls Tryz.prog 16 #[.agg #[.int .i64 ((D:Nat):Int),gv]] w fun e w'=>∃ T v,e=.returned (.tuple #[v,.int .i64 0])∧Rg.Rows w' v (T.map Ma.ofN)∧Bk.AllB D gs.length (img gs) T∧AscL T∧Below w.heap.size w w':=by
 refine (All_any gv _ _ w h (hbd_10 (by omega))).mono fun e w' hp=>?_
 obtain ⟨hb,⟨h0,_⟩ | ⟨_,D',gs',h1,h2,⟨h3,_⟩ | ⟨_,h4,_⟩ | ⟨_,_,T,v,rfl,h5,h6,h7⟩⟩⟩:=hp
 ·exact absurd hz h0
 ·obtain rfl:D=D':=by omega
  obtain rfl:=map_ofN_inj h2;rw [ht] at h3; cases h3
 ·omega
 ·obtain rfl:D=D':=by omega
  obtain rfl:=map_ofN_inj h2;exact ⟨T,v,rfl,h5,h6,h7,hb⟩
theorem prim_at {D:Nat} {gs:List (List Nat)} (hz:Ma.gchk ((D:Nat):Int) (gs.map Ma.ofN)=0) (gv:Value) (w:World) (h:Rg.Rows w gv (gs.map Ma.ofN)) :
  Calls Tryz.prog 18 #[.agg #[.int .i64 ((D:Nat):Int),gv]] w fun e w'=>∃ b,e=.returned (.tuple #[.bool b,.int .i64 0])∧(b=true↔PrB D gs)∧Below w.heap.size w w':=by
 refine (Primitive_any gv _ _ w h).mono fun e w' hp=>?_
 obtain ⟨hb,⟨h0,_⟩ | ⟨_,D',gs',b,h1,h2,rfl,h3⟩⟩:=hp
 ·exact absurd hz h0
 ·obtain rfl:D=D':=by omega
  obtain rfl:=map_ofN_inj h2;exact ⟨b,rfl,h3,hb⟩
theorem tv_at {D:Nat} {gs:List (List Nat)} (hz:Ma.gchk ((D:Nat):Int) (gs.map Ma.ofN)=0) (gv:Value) (w:World) (h:Rg.Rows w gv (gs.map Ma.ofN)) :
  Calls Tryz.prog 20 #[.agg #[.int .i64 ((D:Nat):Int),gv]] w fun e w'=>∃ (k:Nat) (O:List (List Nat)) (R:List (List (List Nat))),e=.returned (.tuple #[.int .i64 ((k:Nat):Int),.int .i64 0])∧Cm.IsChain D (Cm.Gr D (·∈gs)) O R∧TrIs O D k∧Below w.heap.size w w':=by
 refine (Transitivity_any gv _ _ w h).mono fun e w' hp=>?_
 obtain ⟨hb,⟨h0,_⟩ | ⟨_,D',gs',k,O,R,h1,h2,rfl,h3,h4⟩⟩:=hp
 ·exact absurd hz h0
 ·obtain rfl:D=D':=by omega
  obtain rfl:=map_ofN_inj h2;exact ⟨k,O,R,rfl,h3,h4,hb⟩
theorem all_no {D:Nat} {gs:List (List Nat)} (hz:Ma.gchk ((D:Nat):Int) (gs.map Ma.ofN)=0) (ht:trn gs D=false) (gv:Value) (w:World) (h:Rg.Rows w gv (gs.map Ma.ofN)) :
  Calls Tryz.prog 16 #[.agg #[.int .i64 ((D:Nat):Int),gv]] w fun e w'=>e=.returned (.tuple #[.slice none 0 0,.int .i64 13])∧Below w.heap.size w w':=by
 refine (All_any gv _ _ w h (fun D' gs' h1 h2 _ h3 _=>?_)).mono fun e w' hp=>?_
 ·obtain rfl:D=D':=by omega
  obtain rfl:=map_ofN_inj h2;rw [ht] at h3; cases h3
 ·obtain ⟨hb,⟨h0,_⟩ | ⟨_,D',gs',h1,h2,⟨_,rfl⟩ | ⟨h3,_⟩ | ⟨h3,_⟩⟩⟩:=hp
  ·exact absurd hz h0
  ·exact ⟨rfl,hb⟩
  ·obtain rfl:D=D':=by omega
   obtain rfl:=map_ofN_inj h2;rw [ht] at h3; cases h3
  ·obtain rfl:D=D':=by omega
   obtain rfl:=map_ofN_inj h2;rw [ht] at h3; cases h3
theorem ascL_at {T:List (List Nat)} (h:AscL T) (hn:T.Nodup) {i:Nat} (hi:i+1<T.length):lessL (Ma.ofN (T[i]'(by omega))) (Ma.ofN T[i+1])=true:=by
 have h1:=List.pairwise_iff_getElem.1 h i (i+1) (by rw [List.length_map]; omega) (by rw [List.length_map]; exact hi) (Nat.lt_succ_self _);rw [List.getElem_map,List.getElem_map] at h1;refine lessL_total h1 fun e=>?_;have e2:=congrArg (List.map Int.toNat) e;rw [toN1,toN1] at e2;have:=(List.getElem_inj hn).1 e2;omega
theorem count_take {M:List Nat} {n:Nat} (hn:n<M.length) (c:Nat):(M.take (n+1)).count c=(M.take n).count c+if c=M.getD n 0 then 1 else 0:=by
 have e:M.take (n+1)=M.take n++[M.getD n 0]:=by rw [List.take_add_one,List.getElem?_eq_getElem hn,Bk.getD_lt hn]; rfl
 rw [e,List.count_append,List.count_singleton]
 congr 1
 by_cases h:c=M.getD n 0
 ·rw [if_pos h,h]; simp
 ·rw [if_neg h,if_neg (by
   intro h2
   exact h ((beq_iff_eq.1 h2).symm))]
end Go.Proofs.YthehbckogieimaaGreat
