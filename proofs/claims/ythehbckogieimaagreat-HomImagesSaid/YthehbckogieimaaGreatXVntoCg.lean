/- Lemmas and contracts on the way to the statement; no condition of their own beyond those written. -/
import Derived.Test.YthehbckogieimaaGreatXCmtoCp
import Derived.Deep.CutRange
import Derived.Deep.CutBlock
import Derived.IntWalk
import Derived.Great.BuildSlice
import Derived.ArgAppend
import Derived.Laws.CopyOwn
import Derived.StillTailTactics
import Derived.Deep.MidRow
import Derived.WalkSpells
import Derived.WalkLawsBesides
import Derived.Maps.AppendAt
import Derived.OwnWalk
import Derived.OrdersHeld
import Derived.Deep.OwnRows
import Derived.WalkKit
import Derived.Lib.Hide
import Derived.Laws.OwnMore
import Derived.Test.YthehbckogieimaaGreatProg
import Derived.Outline
import Derived.Deep.DeepFit
import Derived.BigQuiet
import Derived.Deep.QuietTactic
import Derived.Sort.OwnSortedInts
import Derived.WideMake
import Derived.MapKept
import Derived.ChangeMaps5
import Derived.Shelf.Sort.Plain
import Derived.RangeFuncBox
import Derived.RangeFuncLeaves
import Derived.Shelf.Abstract
import Derived.OwnWalkIn
import Derived.TacticsInMore
import Derived.LoopNIn
import Derived.LoopIn
set_option linter.unusedVariables false
set_option linter.unusedSimpArgs false
set_option maxRecDepth 100000
set_option maxHeartbeats 8000000
namespace Go.Proofs.YthehbckogieimaaGreat
open Go.RowKit
open Go.Proofs
open Go.Proofs.Cm (Lv Twr trOf)
attribute [local irreducible] Go.Calls
theorem Vncl1 (args:Array Value) (w:World):(callFunc 184 args).run Tryz.prog w=.ok (.enter 184 args) w:=by kernel_rfl
theorem Vncl2 (args:Array Value) (w:World):(callFunc 192 args).run Tryz.prog w=.ok (.enter 192 args) w:=by kernel_rfl
theorem row_of {w:World} {B:Nat} {e:TypeId} {v:Value} {n:Nat} {xs:List Value} (h:w.ownsRow B e 1 v n xs) {k:Nat} (hk:k<n):∃ g c u,v=.slice (some ⟨g,0,none⟩) n c∧w.cell? ⟨g,0+k,none⟩=some u∧xs[k]?=some u∧g<w.heap.size:=by
 have hh:=h;obtain ⟨h1,h2⟩:=h
 rcases h2 with ⟨_,h0⟩ | ⟨g,cap,cur,rfl,hg,hc,h3,h4,h5,h6⟩
 ·omega
 ·have hx:k<xs.length:=by omega
  refine ⟨g,cap,xs[k],rfl,?_,List.getElem?_eq_getElem hx,(Array.getElem?_eq_some_iff.1 hc).1⟩;have:=hh.cells (g:=g) rfl k xs[k] (List.getElem?_eq_getElem hx);rw [Nat.zero_add];unfold Addr.add at this
  split at this
  ·rename_i h0; subst h0; exact this
  ·simpa using this
theorem TowAt.orbS {F:Nat→Prop} {L n:Nat} {w:World} {T:Twr} {V:Nat→LV} (h:TowAt F L n w T V) {i k:Nat} (hi:i<n) (hk:k<(T i).orb.length):∃ g c,(V i).o=.slice (some ⟨g,0,none⟩) (T i).orb.length c∧w.cell? ⟨g,0+k,none⟩=some (.int .i64 (((T i).orb[k]:Nat):Int))∧g<w.heap.size:=by
 obtain ⟨g,c,u,e,h1,h2,h3⟩:=row_of (h.lv i hi).oown hk;refine ⟨g,c,e,?_,h3⟩;rw [h1,← h2];simp [Ma.ofN,List.getElem?_eq_getElem hk]
theorem TowAt.orbL {F:Nat→Prop} {L n:Nat} {w:World} {T:Twr} {V:Nat→LV} (h:TowAt F L n w T V) {i:Nat} (hi:i<n):∃ a c,(V i).o=.slice a (T i).orb.length c:=Rg.row_shape (h.lv i hi).oown
theorem TowAt.genL {F:Nat→Prop} {L n:Nat} {w:World} {T:Twr} {V:Nat→LV} (h:TowAt F L n w T V) {i:Nat} (hi:i<n):∃ a c,(V i).g=.slice a (T i).gens.length c:=Rg.row_shape (h.lv i hi).gown
theorem TowAt.genS {F:Nat→Prop} {L n:Nat} {w:World} {T:Twr} {V:Nat→LV} (h:TowAt F L n w T V) {i k:Nat} (hi:i<n) (hk:k<(T i).gens.length):∃ g c u,(V i).g=.slice (some ⟨g,0,none⟩) (T i).gens.length c∧w.cell? ⟨g,0+k,none⟩=some u∧FP F w u (T i).gens[k]∧g<w.heap.size:=by
 obtain ⟨g,c,u,e,h1,h2,h3⟩:=row_of (h.lv i hi).gown hk;refine ⟨g,c,u,e,h1,?_,h3⟩;have hel:=(h.lv i hi).gel;obtain ⟨hku,rfl⟩:=List.getElem?_eq_some_iff.1 h2;have:=hel.2 k hku (by simpa using hk);simp only [List.getElem_map] at this;exact this
structure CL (w:World) (b o:Nat) (v:Value):Prop where
 cell:w.cell? ⟨b,o,none⟩=some v
 lt:b<w.heap.size
theorem CL.up {w w':World} {b o:Nat} {v:Value} (h:CL w b o v) (hb:Below w.heap.size w w'):CL w' b o v:=⟨(hb.cell (p:=⟨b,o,none⟩) h.lt).trans h.cell,Nat.lt_of_lt_of_le h.lt hb.size⟩
theorem Done.next {T:Twr} {i k q:Nat} (h:Cm.Done T i k) (hq:∃ h:k<(T i).orb.length,(T i).orb[k]=q) (ht:(T i).tried q=(T i).gens.length):Cm.Done T i (k+1):=fun m hm hmk=>by
 by_cases e:m=k
 ·subst e
  obtain ⟨_,e⟩:=hq;rw [e]; exact ht
 ·exact h m hm (by omega)
open Go.Proofs.Cm in
def CloseC (n i:Nat):Prop:=∀ (F:Nat→Prop) (L tb:Nat) (w:World) (T:Twr) (V:Nat→LV),TowAt F L n w T V→CF F w tb 0 (.int .i64 ((n:Nat):Int))→CF F w tb 1 (.slice (some ⟨L,0,none⟩) n n)→(∀ j,i<j→j<n→Full n T j)→Lvl n T i→(T i).gens.length≤5000 →
 Calls Tryz.prog 262 #[.pointer (some ⟨tb,0,none⟩),.int .i64 ((i:Nat):Int)] w fun e w'=>∃ F' T' V',e=.returned (.tuple #[])∧KG F w F' w'∧TowAt F' L n w' T' V'∧CInv n i T T'∧Cmp T' i
open Go.Proofs.Cm in
def AddC (n i:Nat):Prop:=∀ (F:Nat→Prop) (L tb:Nat) (w:World) (T:Twr) (V:Nat→LV) (xv:Value) (x:List Nat),TowAt F L n w T V→CF F w tb 0 (.int .i64 ((n:Nat):Int))→CF F w tb 1 (.slice (some ⟨L,0,none⟩) n n)→FP F w xv x→Gd n x→Fx i x→(∀ j,i≤j→j<n→Full n T j) →
 Calls Tryz.prog 192 #[.pointer (some ⟨tb,0,none⟩),xv,.int .i64 ((i:Nat):Int)] w fun e w'=>∃ F' T' V',e=.returned (.tuple #[])∧KG F w F' w'∧TowAt F' L n w' T' V'∧Added n i T T' x
open Go.Proofs.Cm in
theorem close_any {n i:Nat} (hn1:1≤n) (hn2:n≤64) (hin:i<n) (hadd:i+1<n→AddC n (i+1)):CloseC n i:=by
 intro F L tb w T V hT hc0 hc1 hup hlv hgl;have K:=ι (KG.refl hT.Flt);have HT:=ι hT;have C0:=ι hc0;have C1:=ι hc1;have HI:=ι (CInv.refl hlv hup);have HD:=ι (show Done T i 0 from fun m _ h=>absurd h (Nat.not_lt_zero _));have HADD:=ι hadd;have HG:=ι hgl;have hOO:=ι (orb_len hlv);clear hT hc0 hc1 hup hlv hadd hgl
 go_enter Tryz.func262,Tryz.ntmps262
 go_upto_region 0 with (fail);refine Rg.wl ?_;refine Rg.lm 10 (.pointer (some ⟨tb,0,none⟩)) ?_;go_frame;refine Rg.lr 11 (exec_nil _ rfl rfl) ?_;go_frame;refine Rg.lr 12 (exec_field _ rfl rfl (towF1 _ _)) ?_;go_frame;refine Rg.lr 13 (Rg.exec_load (v:=.slice (some ⟨L,0,none⟩) n n) _ _ rfl ⟨tb,1,none⟩ rfl (Rg.run_loadSl _ _ Tryz.underlying200 C1.out.cell)) ?_;go_frame;refine Rg.lm 14 (.int .i64 ((i:Nat):Int)) ?_;go_frame;refine Rg.lr 15 (exec_indexZ0 _ _ rfl Tryz.underlying200 szLevel L (n) (n) (i) rfl rfl hin) ?_;go_frame;refine Rg.la 4 (.pointer (some ⟨L,i*194,none⟩)) ?_;go_frame;have hVo:=HT.out.orbL hin;obtain ⟨oa0,oc0,hVo⟩:=hVo
 have hL0:w.cell? ⟨L,i*194+1,none⟩=some (.slice oa0 (T i).orb.length oc0):=by rw [getO HT.out hin (by omega),hVo]
 have hoN:((T i).orb.length:Int)≤64:=by have:=hOO.out; omega
 clear hVo;go_wp2
 go_loopw [5] (fun kv wr=>∃ (k:Nat) (F1:Nat→Prop) (T1:Twr) (V1:Nat→LV),kv=.int .i64 k∧k≤(T1 i).orb.length∧Hid (TowAt F1 L n wr T1 V1)∧Hid (CF F1 wr tb 0 (.int .i64 ((n:Nat):Int)))∧Hid (CF F1 wr tb 1 (.slice (some ⟨L,0,none⟩) n n))∧Hid (KG F w F1 wr)∧Hid (CInv n i T T1)∧Hid (Done T1 i k)) (fun kv _=>n - (intOf kv).toNat)
 case atStart=>exact ⟨0,F,T,V,rfl,Nat.zero_le _,HT,C0,C1,K,HI,HD⟩
 case round =>
  clear HT C0 C1 K HI HD hL0 hoN;obtain ⟨k,F1,T1,V,rfl,hk,HT,C0,C1,K,HI,HD⟩:=hrel;have hon:=orb_len HI.out.lvl
  have hoN:((T1 i).orb.length:Int)≤64:=by omega
  by_cases hkl:k<(T1 i).orb.length
  ·obtain ⟨ob,oc,hVo,hoc,hob⟩:=HT.out.orbS hin hkl
   have hL0:wr.cell? ⟨L,i*194+1,none⟩=some (.slice (some ⟨ob,0,none⟩) (T1 i).orb.length oc):=by rw [getO HT.out hin (by omega),hVo]
   have hkN:(k:Int)<((T1 i).orb.length:Int):=by omega
   obtain ⟨q,hq⟩:∃ q:Nat,Hid (q=(T1 i).orb[k]):=⟨_,ι rfl⟩;have HKL:=ι hkl;have hoc':=ι (show wr.cell? ⟨ob,0+k,none⟩=some (.int .i64 ((q:Nat):Int)) by rw [hq.out]; exact hoc);have HL0:=ι hL0;clear hVo hoc hob;go_upto_region 4 with (fail);refine Rg.wl ?_;refine Rg.lm 25 (.pointer (some ⟨L,i*194,none⟩)) ?_;go_frame;refine Rg.lr 26 (exec_nil _ rfl rfl) ?_;go_frame;refine Rg.lr 27 (exec_field _ rfl rfl (lvF1 _ _ _)) ?_;go_frame;refine Rg.lr 28 (Rg.exec_load (v:=.slice (some ⟨ob,0,none⟩) (T1 i).orb.length oc) _ _ rfl ⟨L,i*194+1,none⟩ rfl (Rg.run_loadSl _ _ Tryz.underlying36 HL0.out)) ?_;go_frame;refine Rg.lm 29 (.int .i64 ((k:Nat):Int)) ?_;go_frame;refine Rg.lr 30 (exec_indexS slInts _ _ rfl ob (0) ((T1 i).orb.length) oc (k) rfl rfl HKL.out) ?_;go_frame;refine Rg.lr 31 (Rg.exec_load (v:=.int .i64 ((q:Nat):Int)) _ _ rfl ⟨ob,0+k,none⟩ rfl (run_loadInt hoc'.out)) ?_;go_frame
   refine Rg.la 6 (.int .i64 ((q:Nat):Int)) ?_;go_frame;have hqo:=ι (show q∈(T1 i).orb by rw [hq.out]; exact List.getElem_mem HKL.out);obtain ⟨uq,huq⟩:=(HI.out.lvl.orb q).1 hqo.out;have hqn:q<n:=HI.out.lvl.tlt q uq huq;have HUQ:=ι huq;have HKQ:=ι (show ∃ h:k<(T1 i).orb.length,(T1 i).orb[k]=q from ⟨HKL.out,hq.out.symm⟩);have HEX:=ι (Ext.refl T1);have hle:=HI.out.lvl.le q;have HN0:=ι (show ((T1 i).gens.length - (T1 i).tried q)+(T1 i).tried q=(T1 i).gens.length by omega);clear huq hL0 hle hoc' hq hqo hkN hon hoN HL0
   have hq64:q<64:=by omega
   go_wp2;simp only [Nat.zero_add]
   go_loopg [] ((T1 i).gens.length - (T1 i).tried q) (fun g wr=>∃ (F2:Nat→Prop) (T2:Twr) (V2:Nat→LV),Hid (g+(T2 i).tried q=(T2 i).gens.length)∧Hid (TowAt F2 L n wr T2 V2)∧Hid (CF F2 wr tb 0 (.int .i64 ((n:Nat):Int)))∧Hid (CF F2 wr tb 1 (.slice (some ⟨L,0,none⟩) n n))∧Hid (KG F w F2 wr)∧Hid (CInv n i T T2)∧Hid (Done T2 i k)∧Hid (∃ h:k<(T2 i).orb.length,(T2 i).orb[k]=q)∧Hid (Ext T1 T2))
   case atStart=>exact ⟨F1,T1,V,HN0,HT,C0,C1,K,HI,HD,HKQ,HEX⟩
   case round =>
    clear HT C0 C1 K HI HD HKQ HEX HN0 HKL;obtain ⟨F2,T2,V2,HN,HT,C0,C1,K,HI,HD,HKQ,HEX⟩:=hrel;obtain ⟨tr,htr⟩:∃ tr:Nat,Hid (tr=(T2 i).tried q):=⟨_,ι rfl⟩;obtain ⟨gn,hgn⟩:∃ gn:Nat,Hid (gn=(T2 i).gens.length):=⟨_,ι rfl⟩
    have hgt:gk+tr=gn:=by rw [htr.out,hgn.out]; exact HN.out
    have hgn5:gn≤5000:=by rw [hgn.out,HI.out.gens]; exact HG.out
    have CT:=ι (CL.mk (show wr.cell? ⟨L,i*194+130+q,none⟩=some (.int .i64 ((tr:Nat):Int)) by rw [getTried HT.out hin hq64 (by omega),← htr.out]) HT.out.lt);obtain ⟨ga,gc,hVg⟩:=HT.out.genL hin;have CG:=ι (CL.mk (show wr.cell? ⟨L,i*194,none⟩=some (.slice ga gn gc) by rw [getG HT.out hin rfl,hVg,hgn.out]) HT.out.lt);have hon:=orb_len HI.out.lvl
    by_cases hk0:gk=0
    ·clear hVg
     go_upto_region 5 with (fail);have hV0:Below wr.heap.size wr wr.drew:=(Below.refl _ _).drew;replace HT:=ι (HT.out.up hV0);replace C0:=ι (C0.out.up hV0);replace C1:=ι (C1.out.up hV0);replace CT:=ι (CT.out.up hV0);replace CG:=ι (CG.out.up hV0);replace K:=ι (K.out.up hV0);generalize Fup F2 wr wr.drew=F1 at *;clear hV0;refine Rg.Any.begin (S:=Rg.Both 11 (fun _=>True) (fun W=>Below wr.drew.heap.size wr.drew W)) mix ?_;generalize wr.drew=w21 at *;have hS:∀ (l:Array Bool) W,Below w21.heap.size w21 W→Rg.Both 11 (fun _=>True) (fun W=>Below w21.heap.size w21 W) l W:=fun l W h=>⟨.inr trivial,h⟩;have hI:Below w21.heap.size w21 w21:=Below.refl _ _;refine Rg.tm 0 11 (.pointer (some ⟨L,i*194,none⟩)) 32 (hS _ _ hI) ?_;go_frame;refine Rg.tm 1 11 (.int .i64 ((q:Nat):Int)) 33 (hS _ _ hI) ?_;go_frame;refine Rg.tg 2 11 (.pointer (some ⟨L,i*194,none⟩)) 34 rfl rfl (.inl ⟨rfl,fun w _=>exec_nil _ rfl rfl⟩) (hS _ _ hI) ?_;go_frame
     refine Rg.tg 3 11 (.pointer (some ⟨L,i*194+130,none⟩)) 35 rfl rfl (.inl ⟨rfl,fun w _=>exec_field _ rfl rfl (lvF4 _ _ _)⟩) (hS _ _ hI) ?_;go_frame;refine Rg.tg 4 11 (.pointer (some ⟨L,i*194+130+q,none⟩)) 36 rfl rfl (.inl ⟨rfl,fun w _=>exec_indexArr _ _ rfl Tryz.underlying208 szI L (i*194+130) (q) rfl rfl hq64⟩) (hS _ _ hI) ?_;go_frame;refine Rg.tg 5 11 (.int .i64 ((tr:Nat):Int)) 37 rfl rfl (Rg.yields_cell _ _ rfl rfl ⟨L,i*194+130+q,none⟩ rfl (fun W hW=>run_loadInt ((Below.cell (p:=⟨L,i*194+130+q,none⟩) hW CT.out.lt).trans CT.out.cell))) (hS _ _ hI) ?_;go_frame;refine Rg.tm 6 11 (.pointer (some ⟨L,i*194,none⟩)) 38 (hS _ _ hI) ?_;go_frame;refine Rg.tg 7 11 (.pointer (some ⟨L,i*194,none⟩)) 39 rfl rfl (.inl ⟨rfl,fun w _=>exec_nil _ rfl rfl⟩) (hS _ _ hI) ?_;go_frame;refine Rg.tg 8 11 (.pointer (some ⟨L,i*194,none⟩)) 40 rfl rfl (.inl ⟨rfl,fun w _=>exec_field _ rfl rfl (lvF0 _ _ _)⟩) (hS _ _ hI) ?_;go_frame
     refine Rg.tg 9 11 (.slice ga gn gc) 41 rfl rfl (Rg.yields_cell _ _ rfl rfl ⟨L,i*194,none⟩ rfl (fun W hW=>Rg.run_loadSl _ _ Tryz.underlying22 ((Below.cell (p:=⟨L,i*194,none⟩) hW CG.out.lt).trans CG.out.cell))) (hS _ _ hI) ?_;go_frame;refine Rg.tg 10 11 (.int .i64 ((gn:Nat):Int)) 42 rfl rfl (.inl ⟨rfl,fun w _=>exec_len _ _ _ rfl Tryz.underlying22 _ _ _ rfl⟩) (hS _ _ hI) ?_;go_frame;refine Rg.Any.one (i:=11) (by kernel_rfl) (Rg.Any.run (some 43) rfl rfl rfl (exec_bin (R:=.bool false) .lss _ _ _ rfl rfl rfl (b_lss _ Rg.dF)) (hS _ _ hI) ?_);go_frame;refine Rg.Any.done (by kernel_rfl) ?_ _;clear hS hI;have HD2:=ι (Done.next HD.out HKQ.out (by rw [← htr.out,← hgn.out]; omega));obtain ⟨hkq1,hkq2⟩:=HKQ.out;go_wp2
     go_roundw
     case rel=>exact ⟨k+1,_,T2,V2,by go_num,hkq1,HT,C0,C1,K,HI,HD2⟩
     case measure=>simp [intOf]; omega
    ·obtain ⟨gb,gc',u,hVg',hgc,hgp,hgl⟩:=HT.out.genS hin (k:=tr) (by have:=hgn.out; omega)
     rw [hVg,← hgn.out] at hVg'
     injection hVg' with e1 _ e2
     subst e1 e2;have HKT:=ι (show tr<gn by omega);obtain ⟨s,hs⟩:∃ s,Hid (∃ h:tr<(T2 i).gens.length,(T2 i).gens[tr]=s):=⟨_,ι ⟨by rw [← hgn.out]; omega,rfl⟩⟩;obtain ⟨hs1,hs2⟩:=hs.out;have hsm:=ι (show s∈(T2 i).gens by rw [← hs2]; exact List.getElem_mem hs1);have GS:=ι (HI.out.lvl.ggd s hsm.out);rw [hs2] at hgp;obtain ⟨sb,so,sc,rfl⟩:=hgp.shape' GS.out hn1;have SP:=ι hgp;have CS:=ι (CL.mk hgc hgl);have hrq:=HEX.out.rep i q uq HUQ.out;have HRQ:=ι hrq;have GU:=ι (HI.out.lvl.tgd q uq hrq)
     have hpq0:Cm.ap (Ma.mulN uq s) i=Cm.ap s q:=by rw [Cm.ap_mul GU.out hin,HI.out.lvl.tat q uq hrq]
     have GY:=ι (Cm.gd_mul GU.out GS.out);obtain ⟨p,hp⟩:∃ p,Hid (p=Cm.ap s q):=⟨_,ι rfl⟩;have hpy:=ι (show Cm.ap (Ma.mulN uq s) i=p by rw [hp.out]; exact hpq0)
     have hpn:p<n:=by rw [← hpy.out]; exact Cm.ap_lt GY.out hin
     have hp64:p<64:=by omega
     have HGT:=ι hgt;have HHK:=ι hk0;clear hVg hgc hgp hgl hs1 hs2 hrq hpq0 hgt hk0
     have hkT:(tr:Int)<(gn:Int):=by have:=HKT.out; omega
     go_upto_region 5 with (fail);have hV0:Below wr.heap.size wr wr.drew:=(Below.refl _ _).drew;replace HT:=ι (HT.out.up hV0);replace C0:=ι (C0.out.up hV0);replace C1:=ι (C1.out.up hV0);replace CT:=ι (CT.out.up hV0);replace CG:=ι (CG.out.up hV0);replace CS:=ι (CS.out.up hV0);replace SP:=ι (SP.out.up hV0);replace K:=ι (K.out.up hV0);generalize Fup F2 wr wr.drew=F1 at *;clear hV0;refine Rg.Any.begin (S:=Rg.Both 11 (fun _=>True) (fun W=>Below wr.drew.heap.size wr.drew W)) mix ?_;generalize wr.drew=w21 at *;have hS:∀ (l:Array Bool) W,Below w21.heap.size w21 W→Rg.Both 11 (fun _=>True) (fun W=>Below w21.heap.size w21 W) l W:=fun l W h=>⟨.inr trivial,h⟩;have hI:Below w21.heap.size w21 w21:=Below.refl _ _;refine Rg.tm 0 11 (.pointer (some ⟨L,i*194,none⟩)) 32 (hS _ _ hI) ?_;go_frame;refine Rg.tm 1 11 (.int .i64 ((q:Nat):Int)) 33 (hS _ _ hI) ?_;go_frame
     refine Rg.tg 2 11 (.pointer (some ⟨L,i*194,none⟩)) 34 rfl rfl (.inl ⟨rfl,fun w _=>exec_nil _ rfl rfl⟩) (hS _ _ hI) ?_;go_frame;refine Rg.tg 3 11 (.pointer (some ⟨L,i*194+130,none⟩)) 35 rfl rfl (.inl ⟨rfl,fun w _=>exec_field _ rfl rfl (lvF4 _ _ _)⟩) (hS _ _ hI) ?_;go_frame;refine Rg.tg 4 11 (.pointer (some ⟨L,i*194+130+q,none⟩)) 36 rfl rfl (.inl ⟨rfl,fun w _=>exec_indexArr _ _ rfl Tryz.underlying208 szI L (i*194+130) (q) rfl rfl hq64⟩) (hS _ _ hI) ?_;go_frame;refine Rg.tg 5 11 (.int .i64 ((tr:Nat):Int)) 37 rfl rfl (Rg.yields_cell _ _ rfl rfl ⟨L,i*194+130+q,none⟩ rfl (fun W hW=>run_loadInt ((Below.cell (p:=⟨L,i*194+130+q,none⟩) hW CT.out.lt).trans CT.out.cell))) (hS _ _ hI) ?_;go_frame;refine Rg.tm 6 11 (.pointer (some ⟨L,i*194,none⟩)) 38 (hS _ _ hI) ?_;go_frame;refine Rg.tg 7 11 (.pointer (some ⟨L,i*194,none⟩)) 39 rfl rfl (.inl ⟨rfl,fun w _=>exec_nil _ rfl rfl⟩) (hS _ _ hI) ?_;go_frame
     refine Rg.tg 8 11 (.pointer (some ⟨L,i*194,none⟩)) 40 rfl rfl (.inl ⟨rfl,fun w _=>exec_field _ rfl rfl (lvF0 _ _ _)⟩) (hS _ _ hI) ?_;go_frame;refine Rg.tg 9 11 (.slice (some ⟨gb,0,none⟩) gn gc) 41 rfl rfl (Rg.yields_cell _ _ rfl rfl ⟨L,i*194,none⟩ rfl (fun W hW=>Rg.run_loadSl _ _ Tryz.underlying22 ((Below.cell (p:=⟨L,i*194,none⟩) hW CG.out.lt).trans CG.out.cell))) (hS _ _ hI) ?_;go_frame;refine Rg.tg 10 11 (.int .i64 ((gn:Nat):Int)) 42 rfl rfl (.inl ⟨rfl,fun w _=>exec_len _ _ _ rfl Tryz.underlying22 _ _ _ rfl⟩) (hS _ _ hI) ?_;go_frame;refine Rg.Any.one (i:=11) (by kernel_rfl) (Rg.Any.run (some 43) rfl rfl rfl (exec_bin (R:=.bool true) .lss _ _ _ rfl rfl rfl (b_lss _ Rg.dT)) (hS _ _ hI) ?_);go_frame;refine Rg.Any.done (by kernel_rfl) ?_ _;clear hS hI;go_upto_region 6 with (fail);have hV0:Below w21.heap.size w21 w21.drew:=(Below.refl _ _).drew;replace HT:=ι (HT.out.up hV0)
     replace C0:=ι (C0.out.up hV0);replace C1:=ι (C1.out.up hV0);replace CT:=ι (CT.out.up hV0);replace CG:=ι (CG.out.up hV0);replace CS:=ι (CS.out.up hV0);replace SP:=ι (SP.out.up hV0);replace K:=ι (K.out.up hV0);generalize Fup F1 w21 w21.drew=F2 at *;clear hV0;refine Rg.Any.begin (S:=Rg.Both 12 (fun _=>True) (fun W=>Below w21.drew.heap.size w21.drew W)) mix ?_;generalize w21.drew=w22 at *;have hS:∀ (l:Array Bool) W,Below w22.heap.size w22 W→Rg.Both 12 (fun _=>True) (fun W=>Below w22.heap.size w22 W) l W:=fun l W h=>⟨.inr trivial,h⟩;have hI:Below w22.heap.size w22 w22:=Below.refl _ _;refine Rg.tm 0 12 (.pointer (some ⟨L,i*194,none⟩)) 44 (hS _ _ hI) ?_;go_frame;refine Rg.tg 1 12 (.pointer (some ⟨L,i*194,none⟩)) 45 rfl rfl (.inl ⟨rfl,fun w _=>exec_nil _ rfl rfl⟩) (hS _ _ hI) ?_;go_frame;refine Rg.tg 2 12 (.pointer (some ⟨L,i*194,none⟩)) 46 rfl rfl (.inl ⟨rfl,fun w _=>exec_field _ rfl rfl (lvF0 _ _ _)⟩) (hS _ _ hI) ?_;go_frame
     refine Rg.tg 3 12 (.slice (some ⟨gb,0,none⟩) gn gc) 47 rfl rfl (Rg.yields_cell _ _ rfl rfl ⟨L,i*194,none⟩ rfl (fun W hW=>Rg.run_loadSl _ _ Tryz.underlying22 ((Below.cell (p:=⟨L,i*194,none⟩) hW CG.out.lt).trans CG.out.cell))) (hS _ _ hI) ?_;go_frame;refine Rg.tm 4 12 (.pointer (some ⟨L,i*194,none⟩)) 48 (hS _ _ hI) ?_;go_frame;refine Rg.tm 5 12 (.int .i64 ((q:Nat):Int)) 49 (hS _ _ hI) ?_;go_frame;refine Rg.tg 6 12 (.pointer (some ⟨L,i*194,none⟩)) 50 rfl rfl (.inl ⟨rfl,fun w _=>exec_nil _ rfl rfl⟩) (hS _ _ hI) ?_;go_frame;refine Rg.tg 7 12 (.pointer (some ⟨L,i*194+130,none⟩)) 51 rfl rfl (.inl ⟨rfl,fun w _=>exec_field _ rfl rfl (lvF4 _ _ _)⟩) (hS _ _ hI) ?_;go_frame;refine Rg.tg 8 12 (.pointer (some ⟨L,i*194+130+q,none⟩)) 52 rfl rfl (.inl ⟨rfl,fun w _=>exec_indexArr _ _ rfl Tryz.underlying208 szI L (i*194+130) (q) rfl rfl hq64⟩) (hS _ _ hI) ?_;go_frame
     refine Rg.tg 9 12 (.int .i64 ((tr:Nat):Int)) 53 rfl rfl (Rg.yields_cell _ _ rfl rfl ⟨L,i*194+130+q,none⟩ rfl (fun W hW=>run_loadInt ((Below.cell (p:=⟨L,i*194+130+q,none⟩) hW CT.out.lt).trans CT.out.cell))) (hS _ _ hI) ?_;go_frame;refine Rg.tg 10 12 (.pointer (some ⟨gb,0+tr,none⟩)) 54 rfl rfl (Rg.yields_index slPerms _ _ rfl rfl gb (0) (gn) gc (tr) rfl rfl HKT.out) (hS _ _ hI) ?_;go_frame;refine Rg.tg 11 12 (.slice (some ⟨sb,so,none⟩) n sc) 55 rfl rfl (Rg.yields_cell _ _ rfl rfl ⟨gb,0+tr,none⟩ rfl (fun W hW=>Rg.run_loadSl _ _ Tryz.underlying51 ((Below.cell (p:=⟨gb,0+tr,none⟩) hW CS.out.lt).trans CS.out.cell))) (hS _ _ hI) ?_;go_frame;refine Rg.Any.one (i:=12) (by kernel_rfl) (Rg.Any.run (some 7) rfl rfl rfl (Rg.xa (.slice (some ⟨sb,so,none⟩) n sc) _ rfl rfl) (hS _ _ hI) ?_);go_frame;refine Rg.Any.done (by kernel_rfl) ?_ _;clear hS hI;go_upto_region 7 with (fail)
     have hV0:Below w22.heap.size w22 w22.drew:=(Below.refl _ _).drew;replace HT:=ι (HT.out.up hV0);replace C0:=ι (C0.out.up hV0);replace C1:=ι (C1.out.up hV0);replace CT:=ι (CT.out.up hV0);replace CG:=ι (CG.out.up hV0);replace CS:=ι (CS.out.up hV0);replace SP:=ι (SP.out.up hV0);replace K:=ι (K.out.up hV0);generalize Fup F2 w22 w22.drew=F3 at *;clear hV0;refine Rg.Any.begin (S:=Rg.Both 10 (fun W=>Below w22.drew.heap.size w22.drew W) (fun _=>True)) mix ?_;generalize w22.drew=w23 at *;have hS:∀ (l:Array Bool) W,Below w23.heap.size w23 W→Rg.Both 10 (fun W=>Below w23.heap.size w23 W) (fun _=>True) l W:=fun l W h=>⟨.inr h,trivial⟩;have hS2:∀ (l:Array Bool) W,l.getD 10 false=true→Rg.Both 10 (fun W=>Below w23.heap.size w23 W) (fun _=>True) l W:=fun l W h=>⟨.inl h,trivial⟩;have hI:Below w23.heap.size w23 w23:=Below.refl _ _;refine Rg.tm 0 10 (.pointer (some ⟨L,i*194,none⟩)) 56 (hS _ _ hI) ?_;go_frame
     refine Rg.tm 1 10 (.int .i64 ((q:Nat):Int)) 57 (hS _ _ hI) ?_;go_frame;refine Rg.tg 2 10 (.pointer (some ⟨L,i*194,none⟩)) 58 rfl rfl (.inl ⟨rfl,fun w _=>exec_nil _ rfl rfl⟩) (hS _ _ hI) ?_;go_frame;refine Rg.tg 3 10 (.pointer (some ⟨L,i*194+130,none⟩)) 59 rfl rfl (.inl ⟨rfl,fun w _=>exec_field _ rfl rfl (lvF4 _ _ _)⟩) (hS _ _ hI) ?_;go_frame;refine Rg.tg 4 10 (.pointer (some ⟨L,i*194+130+q,none⟩)) 60 rfl rfl (.inl ⟨rfl,fun w _=>exec_indexArr _ _ rfl Tryz.underlying208 szI L (i*194+130) (q) rfl rfl hq64⟩) (hS _ _ hI) ?_;go_frame;refine Rg.Any.takeT (i:=5) (t:=10) (v:=.int .i64 ((tr:Nat):Int)) (some 61) rfl rfl (by kernel_rfl) (by kernel_rfl) (by kernel_rfl) (fun _ _ _ h=>h) rfl (by kernel_rfl) rfl (Rg.yields_cell _ _ rfl rfl ⟨L,i*194+130+q,none⟩ rfl (fun W hW=>run_loadInt ((Below.cell (p:=⟨L,i*194+130+q,none⟩) hW CT.out.lt).trans CT.out.cell))) (hS _ _ hI) ?_;go_frame
     refine Rg.tg 6 10 (.int .i64 (((tr+1):Nat):Int)) 62 rfl rfl (.inl ⟨rfl,fun w _=>exec_bin (R:=.int .i64 (((tr+1):Nat):Int)) .add _ _ _ rfl rfl rfl (b_add _ (by omega) (by omega))⟩) (hS _ _ hI) ?_;go_frame;refine Rg.tg 7 10 (.pointer (some ⟨L,i*194,none⟩)) 63 rfl rfl (.inl ⟨rfl,fun w _=>exec_nil _ rfl rfl⟩) (hS _ _ hI) ?_;go_frame;refine Rg.tg 8 10 (.pointer (some ⟨L,i*194+130,none⟩)) 64 rfl rfl (.inl ⟨rfl,fun w _=>exec_field _ rfl rfl (lvF4 _ _ _)⟩) (hS _ _ hI) ?_;go_frame;refine Rg.tg 9 10 (.pointer (some ⟨L,i*194+130+q,none⟩)) 65 rfl rfl (.inl ⟨rfl,fun w _=>exec_indexArr _ _ rfl Tryz.underlying208 szI L (i*194+130) (q) rfl rfl hq64⟩) (hS _ _ hI) ?_;go_frame;refine Rg.Any.one (i:=10) (by kernel_rfl) (Rg.Any.runSkip none rfl rfl rfl (Rg.exec_store _ _ _ rfl _ rfl _ rfl (run_storeInt _ CT.out.cell (HT.out.frozen _))) (hS2 _ _ rfl) ?_);go_frame
     have htk:=HT.out.tick hin hq64 (o:=i*194+130+q) (by omega);rw [← htr.out] at htk;refine Rg.Any.done (by kernel_rfl) ?_ _;clear hS2;clear hS hI;obtain ⟨hT3,hk3⟩:=htk;have hkg:=KG.kf' (KG.refl HT.out.Flt) hk3;generalize w23.setCell ⟨L,i*194+130+q,none⟩ (.int .i64 ((tr+1:Nat):Int))=w40 at *;replace HT:=ι hT3;replace C0:=ι (C0.out.kg hkg);replace C1:=ι (C1.out.kg hkg);replace SP:=ι (SP.out.kg hkg);replace K:=ι (K.out.trans hkg);clear hkg hk3 hT3 CT CG CS
     have hrq3:Cm.trOf (Cm.tick T2 i q) i q=some uq:=by show (Cm.tick T2 i q i).rep q=some uq; rw [Cm.tick_at]; exact HRQ.out
     obtain ⟨ub,uo,uc,hVu,hUP⟩:=HT.out.toS hin hq64 hrq3 GU.out hn1;have UP:=ι hUP;have CU:=ι (CL.mk (show w40.cell? ⟨L,i*194+2+q,none⟩=some (.slice (some ⟨ub,uo,none⟩) n uc) by rw [getTo HT.out hin hq64 (by omega),hVu]) HT.out.lt);clear hrq3 hVu hUP;go_upto_region 8 with (fail);refine Rg.wl ?_;refine Rg.lm 66 (.pointer (some ⟨L,i*194,none⟩)) ?_;go_frame;refine Rg.lm 67 (.int .i64 ((q:Nat):Int)) ?_;go_frame;refine Rg.lr 68 (exec_nil _ rfl rfl) ?_;go_frame;refine Rg.lr 69 (exec_field _ rfl rfl (lvF2 _ _ _)) ?_;go_frame;refine Rg.lr 70 (exec_indexArr _ _ rfl Tryz.underlying207 szP L (i*194+2) (q) rfl rfl hq64) ?_;go_frame;refine Rg.lr 71 (Rg.exec_load (v:=.slice (some ⟨ub,uo,none⟩) n uc) _ _ rfl ⟨L,i*194+2+q,none⟩ rfl (Rg.run_loadSl _ _ Tryz.underlying51 CU.out.cell)) ?_;go_frame;refine Rg.lm 72 (.slice (some ⟨sb,so,none⟩) n sc) ?_;go_frame;refine Rg.lk 73 (exec_fn 183 _ _ _ rfl rfl rfl (Vmcl0 _ _)) ?_
     refine (chMul_f UP.out SP.out GU.out GS.out hn1 hn2).mono ?_;rintro e1 w41 ⟨yv,rfl,hyv,hb⟩;obtain ⟨yb,yo,yc,rfl⟩:=hyv.shape' GY.out hn1;refine ⟨_,rfl,?_⟩;go_frame;replace HT:=ι (HT.out.up hb);replace C0:=ι (C0.out.up hb);replace C1:=ι (C1.out.up hb);replace SP:=ι (SP.out.up hb);replace UP:=ι (UP.out.up hb);replace CU:=ι (CU.out.up hb);replace K:=ι (K.out.up hb);have YF:=ι hyv;have CY:=ι (show CF _ _ yb (yo+i) (.int .i64 ((p:Nat):Int)) by rw [← hpy.out]; exact hyv.ap GY.out hin);generalize Fup F3 w40 w41=F4 at *;clear hb;refine Rg.la 8 (.slice (some ⟨yb,yo,none⟩) n yc) ?_;go_frame;clear hyv;go_upto_region 9 with (fail);refine Rg.wl ?_;refine Rg.lm 74 (.slice (some ⟨yb,yo,none⟩) n yc) ?_;go_frame;refine Rg.lm 75 (.int .i64 ((i:Nat):Int)) ?_;go_frame;refine Rg.lr 76 (exec_indexS slPerm _ _ rfl yb (yo) (n) yc (i) rfl rfl hin) ?_;go_frame;refine Rg.lr 77 (Rg.exec_load (v:=.int .i64 ((p:Nat):Int)) _ _ rfl ⟨yb,yo+i,none⟩ rfl (run_loadInt CY.out.cell)) ?_;go_frame
     refine Rg.la 9 (.int .i64 ((p:Nat):Int)) ?_;go_frame
     cases hrp:(T2 i).rep p with
     | none =>
      have hp3:(Cm.tick T2 i q i).rep p=none:=by rw [Cm.tick_at]; exact hrp
      have hV3:=((HT.out.lv i hin).none_ p hp64 hp3).1;have CP:=ι (CL.mk (show w41.cell? ⟨L,i*194+2+p,none⟩=some (.slice none 0 0) by rw [getTo HT.out hin hp64 (by omega),hV3]) HT.out.lt);have HRP:=ι hrp;clear hp3 hV3 hrp CU SP UP;go_upto_region 10 with (fail);refine Rg.wl ?_;refine Rg.lm 78 (.pointer (some ⟨L,i*194,none⟩)) ?_;go_frame;refine Rg.lm 79 (.int .i64 ((p:Nat):Int)) ?_;go_frame;refine Rg.lr 80 (exec_nil _ rfl rfl) ?_;go_frame;refine Rg.lr 81 (exec_field _ rfl rfl (lvF2 _ _ _)) ?_;go_frame;refine Rg.lr 82 (exec_indexArr _ _ rfl Tryz.underlying207 szP L (i*194+2) (p) rfl rfl hp64) ?_;go_frame;refine Rg.lr 83 (Rg.exec_load (v:=.slice none 0 0) _ _ rfl ⟨L,i*194+2+p,none⟩ rfl (Rg.run_loadSl _ _ Tryz.underlying51 CP.out.cell)) ?_;go_frame;refine Rg.lr 84 (exec_nilT _ _ rfl rfl rfl) ?_;go_frame;clear CP;go_upto_region 11 with (fail);have hV0:Below w41.heap.size w41 w41.drew:=(Below.refl _ _).drew
      replace HT:=ι (HT.out.up hV0);replace C0:=ι (C0.out.up hV0);replace C1:=ι (C1.out.up hV0);replace YF:=ι (YF.out.up hV0);replace K:=ι (K.out.up hV0);generalize Fup F4 w41 w41.drew=F5 at *;clear hV0;refine Rg.Any.begin (S:=Rg.Both 10 (fun W=>Below w41.drew.heap.size w41.drew W) (fun _=>True)) mix ?_;generalize w41.drew=w42 at *;have hS:∀ (l:Array Bool) W,Below w42.heap.size w42 W→Rg.Both 10 (fun W=>Below w42.heap.size w42 W) (fun _=>True) l W:=fun l W h=>⟨.inr h,trivial⟩;have hS2:∀ (l:Array Bool) W,l.getD 10 false=true→Rg.Both 10 (fun W=>Below w42.heap.size w42 W) (fun _=>True) l W:=fun l W h=>⟨.inl h,trivial⟩;have hI:Below w42.heap.size w42 w42:=Below.refl _ _;refine Rg.tm 0 10 (.pointer (some ⟨L,i*194,none⟩)) 85 (hS _ _ hI) ?_;go_frame;refine Rg.tm 1 10 (.int .i64 ((p:Nat):Int)) 86 (hS _ _ hI) ?_;go_frame;refine Rg.tm 2 10 (.pointer (some ⟨L,i*194,none⟩)) 87 (hS _ _ hI) ?_;go_frame
      refine Rg.tm 3 10 (.int .i64 ((p:Nat):Int)) 88 (hS _ _ hI) ?_;go_frame;refine Rg.tm 4 10 (.slice (some ⟨yb,yo,none⟩) n yc) 89 (hS _ _ hI) ?_;go_frame;refine Rg.tm 5 10 (.slice (some ⟨yb,yo,none⟩) n yc) 90 (hS _ _ hI) ?_;go_frame;refine Rg.tg 7 10 (.pointer (some ⟨L,i*194,none⟩)) 92 rfl rfl (.inl ⟨rfl,fun w _=>exec_nil _ rfl rfl⟩) (hS _ _ hI) ?_;go_frame;refine Rg.tg 8 10 (.pointer (some ⟨L,i*194+2,none⟩)) 93 rfl rfl (.inl ⟨rfl,fun w _=>exec_field _ rfl rfl (lvF2 _ _ _)⟩) (hS _ _ hI) ?_;go_frame;refine Rg.tg 11 10 (.pointer (some ⟨L,i*194,none⟩)) 95 rfl rfl (.inl ⟨rfl,fun w _=>exec_nil _ rfl rfl⟩) (hS _ _ hI) ?_;go_frame;refine Rg.tg 12 10 (.pointer (some ⟨L,i*194+66,none⟩)) 96 rfl rfl (.inl ⟨rfl,fun w _=>exec_field _ rfl rfl (lvF3 _ _ _)⟩) (hS _ _ hI) ?_;go_frame;refine Rg.Any.one (i:=6) (by kernel_rfl) (Rg.Any.ask (some 91) rfl rfl rfl _ _ (exec_fn1 184 _ _ rfl rfl (Vncl1 _ _)) ?_)
      refine (chInv_f YF.out GY.out hn1 hn2).mono ?_;rintro e1 w43 ⟨iv,rfl,hiv,hb⟩;obtain ⟨jb,jo,jc,rfl⟩:=hiv.shape' (Cm.gd_inv GY.out) hn1;have hI2_u:=Rg.acc hI hb;clear hI;replace HT:=ι (HT.out.up hb);replace C0:=ι (C0.out.up hb);replace C1:=ι (C1.out.up hb);replace YF:=ι (YF.out.up hb);replace K:=ι (K.out.up hb);have IF:=ι hiv;generalize Fup F5 w42 w43=F6 at *;clear hb;refine ⟨_,rfl,(hS _ _ hI2_u),?_⟩;go_frame;refine Rg.tg 9 10 (.pointer (some ⟨L,i*194+2+p,none⟩)) 94 rfl rfl (.inl ⟨rfl,fun w _=>exec_indexArr _ _ rfl Tryz.underlying207 szP L (i*194+2) (p) rfl rfl hp64⟩) (hS _ _ hI2_u) ?_;go_frame;refine Rg.Any.one (i:=10) (by kernel_rfl) (Rg.Any.runSkip none rfl rfl rfl (Rg.exec_store _ _ _ rfl _ rfl _ rfl (Rg.run_storeSl _ infoPerm (getTo HT.out hin hp64 (by omega)) (HT.out.frozen _))) (hS2 _ _ rfl) ?_);go_frame;refine Rg.tg 13 10 (.pointer (some ⟨L,i*194+66+p,none⟩)) 97 rfl rfl (.inl ⟨rfl,fun w _=>exec_indexArr _ _ rfl Tryz.underlying207 szP L (i*194+66) (p) rfl rfl hp64⟩) (hS2 _ _ rfl) ?_;go_frame
      have hr1:=HT.out.row.set (i*194+2+p) (.slice (some ⟨yb,yo,none⟩) n yc);refine Rg.Any.one (i:=14) (by kernel_rfl) (Rg.Any.runSkip none rfl rfl rfl (Rg.exec_store _ _ _ rfl _ rfl _ rfl (Rg.run_storeSl _ infoPerm (hr1.cell (by omega)) (hr1.frozen _))) (hS2 _ _ rfl) ?_);go_frame;clear hr1;refine Rg.Any.done (by kernel_rfl) ?_ _;clear hS2;clear hS hI2_u;obtain ⟨V4,hT4,hk4⟩:=HT.out.setTo hin hp64 (o1:=i*194+2+p) (o2:=i*194+66+p) (by omega) (by omega) YF.out IF.out;have hkg:=KG.kf' (KG.refl HT.out.Flt) hk4;generalize (w43.setCell ⟨L,i*194+2+p,none⟩ (.slice (some ⟨yb,yo,none⟩) n yc)).setCell ⟨L,i*194+66+p,none⟩ (.slice (some ⟨jb,jo,none⟩) n jc)=w60 at *;replace C0:=ι (C0.out.kg hkg);replace C1:=ι (C1.out.kg hkg);replace K:=ι (K.out.trans hkg);clear hkg hk4;obtain ⟨T4,HT4⟩:∃ T4,Hid (T4=setTo (Cm.tick T2 i q) i p (Ma.mulN uq s)):=⟨_,ι rfl⟩
      rw [← HT4.out] at hT4;replace HT:=ι hT4
      have ho4:(T4 i).orb.length≤n:=by
       have e:(T4 i).orb=(T2 i).orb:=by rw [HT4.out]; simp [setTo,Cm.tick_at]
       rw [e]; exact hon
      obtain ⟨oa,oc,hVo⟩:=HT.out.orbL hin;have CO:=ι (CL.mk (show w60.cell? ⟨L,i*194+1,none⟩=some (.slice oa (T4 i).orb.length oc) by rw [getO HT.out hin rfl,hVo]) HT.out.lt);obtain ⟨a9,c9,X9,r1,r2,r3,V5,r4,r5⟩:=HT.out.addO hin (o:=i*194+1) rfl p (by omega) 36;rw [hVo] at r1 r2;clear hT4 hVo IF YF;go_upto_region 12 with (fail);refine Rg.wl ?_;refine Rg.lm 98 (.pointer (some ⟨L,i*194,none⟩)) ?_;go_frame;refine Rg.lm 99 (.pointer (some ⟨L,i*194,none⟩)) ?_;go_frame;refine Rg.lr 100 (exec_nil _ rfl rfl) ?_;go_frame;refine Rg.lr 101 (exec_field _ rfl rfl (lvF1 _ _ _)) ?_;go_frame;refine Rg.lr 102 (Rg.exec_load (v:=.slice oa (T4 i).orb.length oc) _ _ rfl ⟨L,i*194+1,none⟩ rfl (Rg.run_loadSl _ _ Tryz.underlying36 CO.out.cell)) ?_;go_frame;refine Rg.lm 103 (.int .i64 ((p:Nat):Int)) ?_;go_frame;refine Rg.lr 104 (Rg.exec_buildSlice _ _ _ rfl (.int .i64 ((p:Nat):Int)) rfl (run_build1i w60 _)) ?_;go_frame
      refine Rg.lr 105 (Rg.exec_append _ _ _ rfl rfl rfl r1) ?_;go_frame;refine Rg.lr 106 (exec_nil _ rfl rfl) ?_;go_frame;refine Rg.lr 107 (exec_field _ rfl rfl (lvF1 _ _ _)) ?_;go_frame;refine Rg.list_skip none rfl rfl (Rg.exec_store _ _ _ rfl _ rfl _ rfl (Rg.run_storeSl _ infoInts r2 r3)) ?_;go_frame;clear CO r1 r2 r3;have hkg:=KG.kf' (KG.refl HT.out.Flt) r5;generalize X9.setCell ⟨L,i*194+1,none⟩ (.slice a9 ((T4 i).orb.length+1) c9)=w70 at *;replace C0:=ι (C0.out.kg hkg);replace C1:=ι (C1.out.kg hkg);replace K:=ι (K.out.trans hkg);rw [HT4.out,← find_eq] at r4;have hf:=CInv.found HI.out HD.out hin (q:=q) (s:=s) (uq:=uq) (by rw [← htr.out,← hgn.out]; exact HKT.out) (by obtain ⟨a,b⟩:=hs.out; simp only [← htr.out]; exact b) HRQ.out (by rw [← hp.out]; exact HRP.out) HKQ.out;have hx:=HEX.out.trans ((Cm.tick_ext T2 i q).trans (Cm.find_ext (T:=Cm.tick T2 i q) (p:=p) (y:=Ma.mulN uq s) (by rw [Cm.tick_at]; exact HRP.out)))
      rw [← hp.out] at hf;obtain ⟨hf1,hf2,hf3,hf4,hf5⟩:=hf;replace HT:=ι r4;have HF1:=ι hf1;have HF2:=ι hf2;have HF5:=ι hf5;have HX:=ι hx;have HN5:=ι (show (gk - 1)+(Cm.find (Cm.tick T2 i q) i p (Ma.mulN uq s) i).tried q=(Cm.find (Cm.tick T2 i q) i p (Ma.mulN uq s) i).gens.length by have h1:=HN.out; have h2:=HHK.out; rw [hf3,hf4]; omega);clear hf1 hf2 hf3 hf4 hf5 hx hkg r4 r5;go_wp2
      go_roundg (gk - 1)
      case rel=>exact ⟨_,_,V5,HN5,HT,C0,C1,K,HF1,HF2,HF5,HX⟩
      case measure=>have:=HHK.out; omega
     | some v =>
      have hp3:trOf (Cm.tick T2 i q) i p=some v:=by show (Cm.tick T2 i q i).rep p=some v; rw [Cm.tick_at]; exact hrp
      obtain ⟨hsa,GV,_,GX,FX,RX⟩:=schr_ok HI.out.lvl hin hsm.out HRQ.out (show (T2 i).rep (Cm.ap s q)=some v by rw [← hp.out]; exact hrp);replace GV:=ι GV;replace GX:=ι GX;replace FX:=ι FX;replace RX:=ι RX;obtain ⟨vb,vo,vc,hVt,_⟩:=HT.out.toS hin hp64 hp3 GV.out hn1;obtain ⟨zb,zo,zc,hVb,hBP⟩:=HT.out.byS hin hp64 hp3 GV.out hn1;have CP:=ι (CL.mk (show w41.cell? ⟨L,i*194+2+p,none⟩=some (.slice (some ⟨vb,vo,none⟩) n vc) by rw [getTo HT.out hin hp64 (by omega),hVt]) HT.out.lt);have CB:=ι (CL.mk (show w41.cell? ⟨L,i*194+66+p,none⟩=some (.slice (some ⟨zb,zo,none⟩) n zc) by rw [getBy HT.out hin hp64 (by omega),hVb]) HT.out.lt);have BP:=ι hBP;have HRP:=ι hrp;clear hp3 hVt hVb hBP hsa hrp CU SP UP
      by_cases hi1:i+1<n
      ·have HFU:=ι (show ∀ j,i+1≤j→j<n→Full n (Cm.tick T2 i q) j from fun j h1 h2=>(HI.out.up j (by omega) h2).ext (Cm.tick_ext T2 i q) (Cm.tick_ne (by omega)) (fun _=>Cm.tick_ne (by omega)))
       have HIN:=ι hi1
       have hiN:((i+1:Nat):Int)<(n:Int):=by omega
       go_upto_region 10 with (fail);refine Rg.wl ?_;refine Rg.lm 78 (.pointer (some ⟨L,i*194,none⟩)) ?_;go_frame;refine Rg.lm 79 (.int .i64 ((p:Nat):Int)) ?_;go_frame;refine Rg.lr 80 (exec_nil _ rfl rfl) ?_;go_frame;refine Rg.lr 81 (exec_field _ rfl rfl (lvF2 _ _ _)) ?_;go_frame;refine Rg.lr 82 (exec_indexArr _ _ rfl Tryz.underlying207 szP L (i*194+2) (p) rfl rfl hp64) ?_;go_frame;refine Rg.lr 83 (Rg.exec_load (v:=.slice (some ⟨vb,vo,none⟩) n vc) _ _ rfl ⟨L,i*194+2+p,none⟩ rfl (Rg.run_loadSl _ _ Tryz.underlying51 CP.out.cell)) ?_;go_frame;refine Rg.lr 84 (exec_nilF _ _ rfl rfl rfl) ?_;go_frame;go_upto_region 13 with (fail);refine Rg.wl ?_;refine Rg.lm 108 (.int .i64 ((i:Nat):Int)) ?_;go_frame;refine Rg.lr 109 (exec_bin (R:=.int .i64 (((i+1):Nat):Int)) .add _ _ _ rfl rfl rfl (b_add _ (by omega) (by omega))) ?_;go_frame;refine Rg.lm 110 (.pointer (some ⟨tb,0,none⟩)) ?_;go_frame
       refine Rg.lr 111 (exec_nil _ rfl rfl) ?_;go_frame;refine Rg.lr 112 (exec_field _ rfl rfl (towF0 _ _)) ?_;go_frame;refine Rg.lr 113 (Rg.exec_load (v:=.int .i64 ((n:Nat):Int)) _ _ rfl ⟨tb,0,none⟩ rfl (run_loadInt C0.out.cell)) ?_;go_frame;refine Rg.lr 114 (exec_bin (R:=.bool true) .lss _ _ _ rfl rfl rfl (b_lss _ Rg.dT)) ?_;go_frame;go_upto_region 14 with (fail);refine Rg.wl ?_;refine Rg.lm 115 (.pointer (some ⟨tb,0,none⟩)) ?_;go_frame;refine Rg.lm 116 (.slice (some ⟨yb,yo,none⟩) n yc) ?_;go_frame;refine Rg.lm 117 (.pointer (some ⟨L,i*194,none⟩)) ?_;go_frame;refine Rg.lm 118 (.int .i64 ((p:Nat):Int)) ?_;go_frame;refine Rg.lr 119 (exec_nil _ rfl rfl) ?_;go_frame;refine Rg.lr 120 (exec_field _ rfl rfl (lvF3 _ _ _)) ?_;go_frame;refine Rg.lr 121 (exec_indexArr _ _ rfl Tryz.underlying207 szP L (i*194+66) (p) rfl rfl hp64) ?_;go_frame;refine Rg.lr 122 (Rg.exec_load (v:=.slice (some ⟨zb,zo,none⟩) n zc) _ _ rfl ⟨L,i*194+66+p,none⟩ rfl (Rg.run_loadSl _ _ Tryz.underlying51 CB.out.cell)) ?_;go_frame
       refine Rg.lk 123 (exec_fn 183 _ _ _ rfl rfl rfl (Vmcl0 _ _)) ?_;refine (chMul_f YF.out BP.out GY.out (Cm.gd_inv GV.out) hn1 hn2).mono ?_;rintro e1 w42 ⟨mv,rfl,hmv,hb⟩;refine ⟨_,rfl,?_⟩;go_frame;replace HT:=ι (HT.out.up hb);replace C0:=ι (C0.out.up hb);replace C1:=ι (C1.out.up hb);replace YF:=ι (YF.out.up hb);replace CY:=ι (CY.out.up hb);replace CP:=ι (CP.out.up hb);replace CB:=ι (CB.out.up hb);replace BP:=ι (BP.out.up hb);replace K:=ι (K.out.up hb);have MV:=ι hmv;generalize Fup F4 w41 w42=F5 at *;clear hb;refine Rg.lm 124 (.int .i64 ((i:Nat):Int)) ?_;go_frame;refine Rg.lr 125 (exec_bin (R:=.int .i64 (((i+1):Nat):Int)) .add _ _ _ rfl rfl rfl (b_add _ (by omega) (by omega))) ?_;go_frame;refine Rg.lk 126 (exec_fn3 192 _ _ _ _ rfl rfl rfl rfl (Vncl2 _ _)) ?_;refine (HADD.out HIN.out _ L tb _ _ _ _ _ HT.out C0.out C1.out MV.out GX.out FX.out HFU.out).mono ?_
       rintro e1 w43 ⟨F9,T9,V9,rfl,hk9,hT9,hA9⟩;have HA:=ι hA9;clear hA9;refine ⟨_,rfl,?_⟩;go_frame;clear CP;clear CB;clear CY;clear YF;clear BP;replace HT:=ι hT9;replace C0:=ι (C0.out.kg hk9);replace C1:=ι (C1.out.kg hk9);replace MV:=ι (MV.out.kg hk9);replace K:=ι (K.out.trans hk9);clear hk9 hT9;have hf:=CInv.ticked HI.out HD.out (q:=q) (s:=s) (uq:=uq) (v:=v) (by rw [← htr.out,← hgn.out]; exact HKT.out) (by obtain ⟨a,b⟩:=hs.out; simp only [← htr.out]; exact b) HRQ.out (by rw [← hp.out]; exact HRP.out) HKQ.out HA.out.ext HA.out.low (fun j h1 h2=>HA.out.full j h1 h2) (fun h0=>HA.out.gens _ (Gr.isG HI.out.lvl.ggd) (fun s hs=>HI.out.lvl.low h0 s (by rwa [Cm.tick_ne (by omega)] at hs)) RX.out) HA.out.sd;have hx:=HEX.out.trans ((Cm.tick_ext T2 i q).trans HA.out.ext);obtain ⟨hf1,hf2,hf3,hf4,hf5⟩:=hf;have HF1:=ι hf1;have HF2:=ι hf2;have HF5:=ι hf5
       have HX:=ι hx;have HN5:=ι (show (gk - 1)+(T9 i).tried q=(T9 i).gens.length by have h1:=HN.out; have h2:=HHK.out; rw [hf3,hf4]; omega);clear hf1 hf2 hf3 hf4 hf5 hx;go_wp2
       go_roundg (gk - 1)
       case rel=>exact ⟨_,_,_,HN5,HT,C0,C1,K,HF1,HF2,HF5,HX⟩
       case measure=>have:=HHK.out; omega
      ·have hiN:¬ ((i+1:Nat):Int)<(n:Int):=by omega
       go_upto_region 10 with (fail);refine Rg.wl ?_;refine Rg.lm 78 (.pointer (some ⟨L,i*194,none⟩)) ?_;go_frame;refine Rg.lm 79 (.int .i64 ((p:Nat):Int)) ?_;go_frame;refine Rg.lr 80 (exec_nil _ rfl rfl) ?_;go_frame;refine Rg.lr 81 (exec_field _ rfl rfl (lvF2 _ _ _)) ?_;go_frame;refine Rg.lr 82 (exec_indexArr _ _ rfl Tryz.underlying207 szP L (i*194+2) (p) rfl rfl hp64) ?_;go_frame;refine Rg.lr 83 (Rg.exec_load (v:=.slice (some ⟨vb,vo,none⟩) n vc) _ _ rfl ⟨L,i*194+2+p,none⟩ rfl (Rg.run_loadSl _ _ Tryz.underlying51 CP.out.cell)) ?_;go_frame;refine Rg.lr 84 (exec_nilF _ _ rfl rfl rfl) ?_;go_frame;go_upto_region 13 with (fail);refine Rg.wl ?_;refine Rg.lm 108 (.int .i64 ((i:Nat):Int)) ?_;go_frame;refine Rg.lr 109 (exec_bin (R:=.int .i64 (((i+1):Nat):Int)) .add _ _ _ rfl rfl rfl (b_add _ (by omega) (by omega))) ?_;go_frame;refine Rg.lm 110 (.pointer (some ⟨tb,0,none⟩)) ?_;go_frame
       refine Rg.lr 111 (exec_nil _ rfl rfl) ?_;go_frame;refine Rg.lr 112 (exec_field _ rfl rfl (towF0 _ _)) ?_;go_frame;refine Rg.lr 113 (Rg.exec_load (v:=.int .i64 ((n:Nat):Int)) _ _ rfl ⟨tb,0,none⟩ rfl (run_loadInt C0.out.cell)) ?_;go_frame;refine Rg.lr 114 (exec_bin (R:=.bool false) .lss _ _ _ rfl rfl rfl (b_lss _ Rg.dF)) ?_;go_frame;have hf:=CInv.ticked (T4:=Cm.tick T2 i q) HI.out HD.out (q:=q) (s:=s) (uq:=uq) (v:=v) (by rw [← htr.out,← hgn.out]; exact HKT.out) (by obtain ⟨a,b⟩:=hs.out; simp only [← htr.out]; exact b) HRQ.out (by rw [← hp.out]; exact HRP.out) HKQ.out (Ext.refl _) (fun _ _=>rfl) (fun j h1 h2=>absurd h2 (by omega)) (fun h0=>absurd h0 hi1) (by rw [show n - (i+1)=0 by omega]; exact Cm.Fx.all GX.out (by have:=FX.out; rwa [show i+1=n by omega] at this));have hx:=HEX.out.trans (Cm.tick_ext T2 i q);obtain ⟨hf1,hf2,hf3,hf4,hf5⟩:=hf
       have HF1:=ι hf1;have HF2:=ι hf2;have HF5:=ι hf5;have HX:=ι hx;have HN5:=ι (show (gk - 1)+((Cm.tick T2 i q) i).tried q=((Cm.tick T2 i q) i).gens.length by have h1:=HN.out; have h2:=HHK.out; rw [hf3,hf4]; omega);clear hf1 hf2 hf3 hf4 hf5 hx;go_wp2
       go_roundg (gk - 1)
       case rel=>exact ⟨_,_,_,HN5,HT,C0,C1,K,HF1,HF2,HF5,HX⟩
       case measure=>have:=HHK.out; omega
  ·have HE:k=(T1 i).orb.length:=by omega
   obtain ⟨oa,oc,hVo⟩:=HT.out.orbL hin
   have hL0:wr.cell? ⟨L,i*194+1,none⟩=some (.slice oa (T1 i).orb.length oc):=by rw [getO HT.out hin (by omega),hVo]
   have hkN:¬ (k:Int)<((T1 i).orb.length:Int):=by omega
   have HD2:=ι (Done.cmp (by rw [← HE]; exact HD.out) HI.out.lvl);clear hVo HE;go_wp2
   go_end0
   exact ⟨rfl,F1,K.out,T1,⟨V,HT.out⟩,HI.out,HD2.out⟩

theorem Vocl0 (args:Array Value) (w:World):(callFunc 261 args).run Tryz.prog w=.ok (.enter 261 args) w:=by kernel_rfl
theorem Vocl1 (args:Array Value) (w:World):(callFunc 262 args).run Tryz.prog w=.ok (.enter 262 args) w:=by kernel_rfl
theorem infoPermsV:(Tryz.prog.info? 22).map (fun i=>(i.zero,i.size,i.bytes))=some (some (.slice none 0 0),1,24):=by kernel_rfl
def putL (T:Twr) (i j:Nat) (r:List Nat):Twr:=fun k=>if i≤k∧k<j then { T k with gens:=(T k).gens++[r] } else T k
theorem putL_zero (T:Twr) (i:Nat) (r:List Nat):putL T i i r=T:=by
 funext k; unfold putL; rw [if_neg (by omega)]
theorem putL_at (T:Twr) (i j:Nat) (r:List Nat):putL T i j r j=T j:=by
 unfold putL; rw [if_neg (by omega)]
theorem putL_step (T:Twr) (i j:Nat) (r:List Nat) (h:i≤j):pushG (putL T i j r) j r=putL T i (j+1) r:=by
 funext k
 unfold pushG
 by_cases e:k=j
 ·subst e
  rw [if_pos rfl,putL_at]; unfold putL; rw [if_pos (by omega)]
 ·rw [if_neg e]; unfold putL
  by_cases h2:i≤k∧k<j
  ·rw [if_pos h2,if_pos (by omega)]
  ·rw [if_neg h2,if_neg (by omega)]
theorem putL_all (T:Twr) (i a:Nat) (r:List Nat):putL T i (a+1) r=Cm.putG T i a r:=by
 funext k
 unfold putL Cm.putG
 by_cases h:i≤k∧k≤a
 ·rw [if_pos (by omega),if_pos h]
 ·rw [if_neg (by omega),if_neg h]
open Go.Proofs.Cm in
theorem add_any {n i:Nat} (hn1:1≤n) (hn2:n≤64) (hin:i<n) (hcl:∀ k,i≤k→k<n→CloseC n k):AddC n i:=by
 intro F L tb w T V xv x hT hc0 hc1 hx gx fx hfull;have K:=ι (KG.refl hT.Flt);have HT:=ι hT;have C0:=ι hc0;have C1:=ι hc1;have X:=ι hx;have GX:=ι gx;have FX:=ι fx;have HFU:=ι hfull;have HCL:=ι hcl;have HR:=ι (Lvl.rp fun j a b=>(hfull j a b).1);obtain ⟨at0,r,hA⟩:∃ a r,Hid (sfP n (trOf T) (n - i) x=(a,r)):=⟨_,_,ι rfl⟩;obtain ⟨ha1,ha2,gr,fr,hno⟩:=sfP_all HR.out (d:=n - i) (x:=x) (by omega) (by omega) gx (by rw [show n - (n - i)=i by omega]; exact fx);rw [hA.out] at ha1 ha2 gr fr hno;have GR:=ι gr;have FR:=ι fr;have HNO:=ι hno;replace ha1:at0≤n:=ha1
 replace ha2:i≤at0:=by have:n - (n - i)≤at0:=ha2; omega
 clear hT hc0 hc1 hx gx fx hfull hcl gr fr hno
 go_enter Tryz.func192,Tryz.ntmps192
 go_upto_region 0 with (fail);refine Rg.wl ?_;refine Rg.lm 11 (.pointer (some ⟨tb,0,none⟩)) ?_;go_frame;refine Rg.lm 12 (xv) ?_;go_frame;refine Rg.lm 13 (.int .i64 ((i:Nat):Int)) ?_;go_frame;have hsc:=sift_any HT.out C0.out C1.out hn1 hn2 X.out GX.out (by omega) FX.out HR.out;rw [hA.out] at hsc
 dsimp only at hsc
 refine Rg.lk 14 (exec_fn3 261 _ _ _ _ rfl rfl rfl rfl (Vocl0 _ _)) ?_;refine (hsc).mono ?_;rintro e1 w1 ⟨F1,rv,rfl,hk1,hT1,hr1,hb1⟩;clear hsc hb1;refine ⟨_,rfl,?_⟩;go_frame;replace HT:=ι hT1;replace C0:=ι (C0.out.kg hk1);replace C1:=ι (C1.out.kg hk1);replace X:=ι (X.out.kg hk1);replace K:=ι (K.out.trans hk1);have R:=ι hr1;clear hk1 hT1;refine Rg.lm 10 (.tuple #[.int .i64 ((at0:Nat):Int),rv]) ?_;go_frame;refine Rg.lr 15 (exec_extract (v:=.int .i64 ((at0:Nat):Int)) _ _ rfl rfl rfl) ?_;go_frame;refine Rg.lr 16 (exec_extract (v:=rv) _ _ rfl rfl rfl) ?_;go_frame;refine Rg.la 6 (.int .i64 ((at0:Nat):Int)) ?_;go_frame;refine Rg.la 7 (rv) ?_;go_frame;clear hr1 X
 by_cases han:at0=n
 ·have hae:(at0:Int)=(n:Int):=by omega
  go_upto_region 1 with (fail);refine Rg.wl ?_;refine Rg.lm 17 (.int .i64 ((at0:Nat):Int)) ?_;go_frame;refine Rg.lm 18 (.pointer (some ⟨tb,0,none⟩)) ?_;go_frame;refine Rg.lr 19 (exec_nil _ rfl rfl) ?_;go_frame;refine Rg.lr 20 (exec_field _ rfl rfl (towF0 _ _)) ?_;go_frame;refine Rg.lr 21 (Rg.exec_load (v:=.int .i64 ((n:Nat):Int)) _ _ rfl ⟨tb,0,none⟩ rfl (run_loadInt C0.out.cell)) ?_;go_frame;refine Rg.lr 22 (exec_bin (R:=.bool true) .eql _ _ _ rfl rfl rfl (b_eql _ Rg.dT)) ?_;go_frame;have HA:=ι (Added.same HFU.out hin GX.out FX.out (by rw [hA.out]; exact han));go_wp2
  first
  | go_end0
  | refine bodyPost_ret (results_none rfl _ _ _) rfl ?_
  exact ⟨rfl,_,K.out,T,⟨V,HT.out⟩,HA.out⟩
 ·have hae:¬ (at0:Int)=(n:Int):=by omega
  have han':at0<n:=by omega
  go_upto_region 1 with (fail);refine Rg.wl ?_;refine Rg.lm 17 (.int .i64 ((at0:Nat):Int)) ?_;go_frame;refine Rg.lm 18 (.pointer (some ⟨tb,0,none⟩)) ?_;go_frame;refine Rg.lr 19 (exec_nil _ rfl rfl) ?_;go_frame;refine Rg.lr 20 (exec_field _ rfl rfl (towF0 _ _)) ?_;go_frame;refine Rg.lr 21 (Rg.exec_load (v:=.int .i64 ((n:Nat):Int)) _ _ rfl ⟨tb,0,none⟩ rfl (run_loadInt C0.out.cell)) ?_;go_frame;refine Rg.lr 22 (exec_bin (R:=.bool false) .eql _ _ _ rfl rfl rfl (b_eql _ Rg.dF)) ?_;go_frame;have hg0:=C0.out.cell;go_upto_region 2 with (fail);go_wp2
  go_loopw [8] (fun iv wr=>∃ (j:Nat) (F2:Nat→Prop) (V2:Nat→LV),iv=.int .i64 j∧i≤j∧j≤at0+1∧Hid (TowAt F2 L n wr (putL T i j r) V2)∧Hid (CF F2 wr tb 0 (.int .i64 ((n:Nat):Int)))∧Hid (CF F2 wr tb 1 (.slice (some ⟨L,0,none⟩) n n))∧Hid (KG F w F2 wr)∧Hid (FP F2 wr rv r)) (fun iv _=>at0+1 - (intOf iv).toNat)
  case atStart=>exact ⟨i,_,V,rfl,Nat.le_refl _,by omega,ι (by rw [putL_zero]; exact HT.out),C0,C1,K,R⟩
  case round =>
   clear HT C0 C1 K R hg0;obtain ⟨j,F2,V2,rfl,hj1,hj2,HT,C0,C1,K,R⟩:=hrel
   by_cases hja:j≤at0
   ·have hjN:(j:Int)≤(at0:Int):=by omega
    have hjn:j<n:=by omega
    obtain ⟨rb,ro,rc,rfl⟩:=R.out.shape' GR.out hn1;have hgl:=HT.out.genL hjn;rw [putL_at] at hgl;obtain ⟨ga,gc,hVg⟩:=hgl;have CG:=ι (CL.mk (show wr.cell? ⟨L,j*194,none⟩=some (.slice ga (T j).gens.length gc) by rw [getG HT.out hjn rfl,hVg]) HT.out.lt);have hgs:(T j).gens.length≤4096:=Nat.le_trans (HFU.out j hj1 hjn).2.2 (pot_le (fun j a b=>(HFU.out j a b).1) hj1 hn2);go_upto_region 5 with (fail);have hV0:Below wr.heap.size wr wr.drew:=(Below.refl _ _).drew;replace HT:=ι (HT.out.up hV0);replace C0:=ι (C0.out.up hV0);replace C1:=ι (C1.out.up hV0);replace R:=ι (R.out.up hV0);replace CG:=ι (CG.out.up hV0);replace K:=ι (K.out.up hV0);generalize Fup F2 wr wr.drew=F1 at *;clear hV0;refine Rg.Any.begin (S:=Rg.Both 16 (fun W:World=>W.cell? ⟨tb,1,none⟩=some (.slice (some ⟨L,0,none⟩) n n)∧W.cell? ⟨L,j*194,none⟩=some (.slice ga (T j).gens.length gc)) (fun _=>True)) mix ?_
    generalize wr.drew=w21 at *;have hS:∀ (l:Array Bool) W,(fun W:World=>W.cell? ⟨tb,1,none⟩=some (.slice (some ⟨L,0,none⟩) n n)∧W.cell? ⟨L,j*194,none⟩=some (.slice ga (T j).gens.length gc)) W→Rg.Both 16 (fun W:World=>W.cell? ⟨tb,1,none⟩=some (.slice (some ⟨L,0,none⟩) n n)∧W.cell? ⟨L,j*194,none⟩=some (.slice ga (T j).gens.length gc)) (fun _=>True) l W:=fun l W h=>⟨.inr h,trivial⟩;have hS2:∀ (l:Array Bool) W,l.getD 16 false=true→Rg.Both 16 (fun W:World=>W.cell? ⟨tb,1,none⟩=some (.slice (some ⟨L,0,none⟩) n n)∧W.cell? ⟨L,j*194,none⟩=some (.slice ga (T j).gens.length gc)) (fun _=>True) l W:=fun l W h=>⟨.inl h,trivial⟩;have hI:(fun W:World=>W.cell? ⟨tb,1,none⟩=some (.slice (some ⟨L,0,none⟩) n n)∧W.cell? ⟨L,j*194,none⟩=some (.slice ga (T j).gens.length gc)) w21:=⟨C1.out.cell,CG.out.cell⟩
    refine Rg.tm 0 16 (.pointer (some ⟨tb,0,none⟩)) 29 (hS _ _ hI) ?_;go_frame;refine Rg.tg 1 16 (.pointer (some ⟨tb,0,none⟩)) 30 rfl rfl (.inl ⟨rfl,fun w _=>exec_nil _ rfl rfl⟩) (hS _ _ hI) ?_;go_frame;refine Rg.tg 2 16 (.pointer (some ⟨tb,1,none⟩)) 31 rfl rfl (.inl ⟨rfl,fun w _=>exec_field _ rfl rfl (towF1 _ _)⟩) (hS _ _ hI) ?_;go_frame;refine Rg.Any.takeT (i:=3) (t:=16) (v:=.slice (some ⟨L,0,none⟩) n n) (some 32) rfl rfl (by kernel_rfl) (by kernel_rfl) (by kernel_rfl) (fun _ _ _ h=>h) rfl (by kernel_rfl) rfl (Rg.yields_cell _ _ rfl rfl ⟨tb,1,none⟩ rfl (fun W hW=>Rg.run_loadSl _ _ Tryz.underlying200 hW.1)) (hS _ _ hI) ?_;go_frame;refine Rg.tm 4 16 (.int .i64 ((j:Nat):Int)) 33 (hS _ _ hI) ?_;go_frame;refine Rg.tm 5 16 (.pointer (some ⟨tb,0,none⟩)) 34 (hS _ _ hI) ?_;go_frame;refine Rg.tg 6 16 (.pointer (some ⟨tb,0,none⟩)) 35 rfl rfl (.inl ⟨rfl,fun w _=>exec_nil _ rfl rfl⟩) (hS _ _ hI) ?_;go_frame
    refine Rg.tg 7 16 (.pointer (some ⟨tb,1,none⟩)) 36 rfl rfl (.inl ⟨rfl,fun w _=>exec_field _ rfl rfl (towF1 _ _)⟩) (hS _ _ hI) ?_;go_frame;refine Rg.Any.takeT (i:=8) (t:=16) (v:=.slice (some ⟨L,0,none⟩) n n) (some 37) rfl rfl (by kernel_rfl) (by kernel_rfl) (by kernel_rfl) (fun _ _ _ h=>h) rfl (by kernel_rfl) rfl (Rg.yields_cell _ _ rfl rfl ⟨tb,1,none⟩ rfl (fun W hW=>Rg.run_loadSl _ _ Tryz.underlying200 hW.1)) (hS _ _ hI) ?_;go_frame;refine Rg.tm 9 16 (.int .i64 ((j:Nat):Int)) 38 (hS _ _ hI) ?_;go_frame;refine Rg.tg 10 16 (.pointer (some ⟨L,j*194,none⟩)) 39 rfl rfl (.inl ⟨rfl,fun w _=>exec_indexZ0 _ _ rfl Tryz.underlying200 szLevel L (n) (n) (j) rfl rfl hjn⟩) (hS _ _ hI) ?_;go_frame;refine Rg.tg 11 16 (.pointer (some ⟨L,j*194,none⟩)) 40 rfl rfl (.inl ⟨rfl,fun w _=>exec_field _ rfl rfl (lvF0 _ _ _)⟩) (hS _ _ hI) ?_;go_frame;refine Rg.Any.takeT (i:=12) (t:=16) (v:=.slice ga (T j).gens.length gc) (some 41) rfl rfl (by kernel_rfl) (by kernel_rfl) (by kernel_rfl) (fun _ _ _ h=>h) rfl (by kernel_rfl) rfl (Rg.yields_cell _ _ rfl rfl ⟨L,j*194,none⟩ rfl (fun W hW=>Rg.run_loadSl _ _ Tryz.underlying22 hW.2)) (hS _ _ hI) ?_;go_frame
    refine Rg.tm 13 16 (.slice (some ⟨rb,ro,none⟩) n rc) 42 (hS _ _ hI) ?_;go_frame;have hbA:=(Below.refl w21.heap.size w21).alloc (Nat.le_refl _) (.cells #[.slice (some ⟨rb,ro,none⟩) n rc] 51);have hI2_m:=(show _∧_ from ⟨(Below.cell (p:=⟨tb,1,none⟩) hbA C1.out.lt).trans C1.out.cell,(Below.cell (p:=⟨L,j*194,none⟩) hbA CG.out.lt).trans CG.out.cell⟩);refine Rg.Any.one (i:=14) (by kernel_rfl) (Rg.Any.run (some 43) rfl rfl rfl (Rg.exec_buildSlice _ _ _ rfl (.slice (some ⟨rb,ro,none⟩) n rc) rfl (run_build1P w21 _ ⟨_,_,_,rfl⟩)) (hS _ _ hI2_m) ?_);go_frame;obtain ⟨a9,c9,X9,r1,r2,r3,V5,r4,r5⟩:=HT.out.addG hjn (o:=j*194) rfl R.out ⟨_,_,_,rfl⟩ (by rw [putL_at]; omega) 22;rw [putL_step _ _ _ _ hj1] at r4;rw [putL_at] at r1 r4 r5;rw [hVg] at r1 r2;have hc9:=r5.cell (b:=tb) (o:=1) C1.out.inF C1.out.lt
    rw [World.cell?_setCell_other (h:=by intro e; injection e with e1 _; exact HT.out.LF (e1▸C1.out.inF)),C1.out.cell] at hc9
    have hI3_m:=(show _∧_ from ⟨hc9,r2⟩);refine Rg.Any.one (i:=15) (by kernel_rfl) (Rg.Any.run (some 44) rfl rfl rfl (Rg.exec_append _ _ _ rfl rfl rfl r1) (hS _ _ hI3_m) ?_);go_frame;refine Rg.Any.one (i:=16) (by kernel_rfl) (Rg.Any.run (some 45) rfl rfl rfl (exec_indexZ0 _ _ rfl Tryz.underlying200 szLevel L (n) (n) (j) rfl rfl hjn) (hS2 _ _ rfl) ?_);go_frame;refine Rg.tg 17 16 (.pointer (some ⟨L,j*194,none⟩)) 46 rfl rfl (.inl ⟨rfl,fun w _=>exec_field _ rfl rfl (lvF0 _ _ _)⟩) (hS2 _ _ rfl) ?_;go_frame;refine Rg.Any.one (i:=18) (by kernel_rfl) (Rg.Any.runSkip none rfl rfl rfl (Rg.exec_store _ _ _ rfl _ rfl _ rfl (Rg.run_storeSl _ infoPermsV r2 r3)) (hS2 _ _ rfl) ?_);go_frame;refine Rg.Any.done (by kernel_rfl) ?_ _;clear hS2;clear hS hI3_m;have hkg:=KG.kf' (KG.refl HT.out.Flt) r5;generalize X9.setCell ⟨L,j*194,none⟩ (.slice a9 ((T j).gens.length+1) c9)=w40 at *;replace C0:=ι (C0.out.kg hkg)
    replace C1:=ι (C1.out.kg hkg);replace R:=ι (R.out.kg hkg);replace K:=ι (K.out.trans hkg);replace HT:=ι r4;clear hkg r1 r2 r3 r4 r5 CG hVg;go_wp2
    go_roundw
    case rel=>exact ⟨j+1,_,V5,by go_num,by omega,by omega,HT,C0,C1,K,R⟩
    case measure=>simp [intOf]; omega
   ·have hjN:¬ (j:Int)≤(at0:Int):=by omega
    obtain rfl:j=at0+1:=by omega
    replace HT:=ι (by have:=HT.out; rwa [putL_all] at this);have HI:=ι (AInv.start (r:=r) HFU.out ha2);go_wp2;simp only [show ((at0:Nat):Int)=(((at0+1:Nat):Int) - 1) by omega]
    go_loopw [9] (fun kv wr=>∃ (k:Nat) (F3:Nat→Prop) (T3:Twr) (V3:Nat→LV),kv=.int .i64 (((k:Nat):Int) - 1)∧i≤k∧k≤at0+1∧Hid (TowAt F3 L n wr T3 V3)∧Hid (CF F3 wr tb 0 (.int .i64 ((n:Nat):Int)))∧Hid (CF F3 wr tb 1 (.slice (some ⟨L,0,none⟩) n n))∧Hid (KG F w F3 wr)∧Hid (AInv n i at0 k T T3 r)) (fun kv _=>(intOf kv+1).toNat - i)
    case atStart=>exact ⟨at0+1,F2,_,V2,rfl,by omega,Nat.le_refl _,HT,C0,C1,K,HI⟩
    case round =>
     clear HT C0 C1 K R HI hjN hj1 hj2 hja;obtain ⟨k0,F3,T3,V3,rfl,hk1,hk2,HT,C0,C1,K,HI⟩:=hrel
     by_cases hki:i<k0
     ·obtain ⟨m,rfl⟩:∃ m,k0=m+1:=⟨k0 - 1,by omega⟩
      simp only [show (((m+1:Nat):Int) - 1)=(m:Int) by omega]
      have hmi:(i:Int)≤(m:Int):=by omega
      have hmn:m<n:=by omega
      have HLV:=ι (HI.out.lvl HFU.out (by omega) (by omega) han' GR.out FR.out);have HUP:=ι HI.out.up
      have HLE:=ι (show (T3 m).gens.length≤5000 by
       have h1:=(HFU.out m (by omega) hmn).2.2;have h2:pot n T m≤4096:=pot_le (fun j a b=>(HFU.out j a b).1) (by omega) hn2;rw [HI.out.put m (by omega) (by omega),putG_in ⟨by omega,by omega⟩]
       simp; omega)
      have HMI:=ι (show i≤m by omega);have HMN:=ι hmn;have HMA:=ι (show m≤at0 by omega);go_upto_region 9 with (fail);refine Rg.wl ?_;refine Rg.lm 53 (.pointer (some ⟨tb,0,none⟩)) ?_;go_frame;refine Rg.lm 54 (.int .i64 ((m:Nat):Int)) ?_;go_frame;refine Rg.lk 55 (exec_fn 262 _ _ _ rfl rfl rfl (Vocl1 _ _)) ?_;refine (HCL.out m HMI.out HMN.out _ L tb _ _ _ HT.out C0.out C1.out HUP.out HLV.out HLE.out).mono ?_;rintro e1 w61 ⟨F9,T9,V9,rfl,hk9,hT9,hc9,hd9⟩;have HI2:=ι (HI.out.step HFU.out HMI.out HMA.out han' (HNO.out han') hc9 hd9);clear hc9 hd9;refine ⟨_,rfl,?_⟩;go_frame;replace HT:=ι hT9;replace C0:=ι (C0.out.kg hk9);replace C1:=ι (C1.out.kg hk9);replace K:=ι (K.out.trans hk9);clear hk9 hT9;go_wp2
      go_roundw
      case rel=>exact ⟨m,_,T9,V9,by go_num,by omega,by omega,HT,C0,C1,K,HI2⟩
      case measure=>simp [intOf]; omega
     ·obtain rfl:k0=i:=by omega
      have hmi:¬ (k0:Int)≤((k0:Int) - 1):=by omega
      have HA2:=ι (AInv.added (i:=k0) HFU.out hin GX.out FX.out (by rw [hA.out]; exact HI.out) (by rw [hA.out]; exact han'));go_wp2
      go_end0
      exact ⟨rfl,F3,K.out,T3,⟨V3,HT.out⟩,HA2.out⟩
end Go.Proofs.YthehbckogieimaaGreat

namespace Go.Proofs.Cm
open Go.Proofs
def lv0:Lv:={ gens:=[],orb:=[],rep:=fun _=>none,tried:=fun _=>0 }
def lv1 (n j:Nat):Lv:={ gens:=[],orb:=[j],rep:=fun z=>if z=j then some (Ma.oneN n) else none,tried:=fun _=>0 }
def newT (n k:Nat):Twr:=fun j=>if j<k then lv1 n j else lv0
theorem newT_full {n:Nat} {j:Nat} (hj:j<n):Full n (newT n n) j:=by
 have e:newT n n j=lv1 n j:=if_pos hj
 have hr:∀ p u,(lv1 n j).rep p=some u→p=j∧u=Ma.oneN n:=fun p u h=>by
  have h:(if p=j then some (Ma.oneN n) else none)=some u:=h
  by_cases e:p=j
  ·rw [if_pos e] at h; injection h with h; exact ⟨e,h.symm⟩
  ·rw [if_neg e] at h; cases h
 refine ⟨⟨?_,?_,?_,?_,?_,?_,?_,?_,?_,?_,?_,?_,?_,?_⟩,?_,?_⟩ <;> (try rw [e])
 ·intro s hs; cases hs
 ·intro s hs; cases hs
 ·intro h0 s hs
  have e2:newT n n (j+1)=lv1 n (j+1):=if_pos h0;rw [e2] at hs; cases hs
 ·exact if_pos rfl
 ·intro p u h; obtain ⟨_,rfl⟩:=hr p u h; exact gd_one n
 ·intro p u h; obtain ⟨_,rfl⟩:=hr p u h; exact Fx.one (by omega)
 ·intro p u h; obtain ⟨rfl,rfl⟩:=hr p u h; exact ap_one hj
 ·intro p u h; obtain ⟨rfl,_⟩:=hr p u h; exact hj
 ·intro p u h; obtain ⟨_,rfl⟩:=hr p u h; exact .one
 ·exact List.nodup_cons.2 ⟨by simp,List.nodup_nil⟩
 ·intro p
  constructor
  ·intro h
   have h:p∈[j]:=h;rw [List.mem_singleton] at h; subst h;exact ⟨_,if_pos rfl⟩
  ·rintro ⟨u,h⟩
   obtain ⟨rfl,_⟩:=hr p u h;exact List.mem_singleton.2 rfl
 ·intro q; exact Nat.le_refl _
 ·intro p _; rfl
 ·intro q u k hk; exact absurd hk (Nat.not_lt_zero _)
 ·intro q u h; rw [e]; rfl
 ·exact Nat.zero_le _
structure Built (n:Nat) (gs:List Nat→Prop) (T:Twr):Prop where
 full:∀ j,j<n→Full n T j
 sub:∀ s∈(T 0).gens,Gr n gs s
 all:∀ s,gs s→Sd n (trOf T) n s
theorem Built.new {n:Nat}:Built n (fun _=>False) (newT n n):=by
 refine ⟨fun j hj=>newT_full hj,fun s hs=>?_,fun s h=>absurd h id⟩;unfold newT at hs
 by_cases h:0<n
 ·rw [if_pos h] at hs; cases hs
 ·rw [if_neg h] at hs; cases hs
theorem Built.add {n:Nat} {gs gs':List Nat→Prop} {T T':Twr} {x:List Nat} (h:Built n gs T) (hg:∀ s,gs' s↔gs s∨s=x) (hgd:∀ s,gs' s→Gd n s) (ha:Added n 0 T T' x):Built n gs' T':=by
 have hG:IsG n (Gr n gs'):=Gr.isG hgd;refine ⟨fun j hj=>ha.full j (Nat.zero_le _) hj,ha.gens _ hG (fun s hs=>Gr.sub hG (fun z hz=>.gen _ ((hg z).2 (.inl hz))) (h.sub s hs)) (.gen _ ((hg x).2 (.inr rfl))),fun s hs=>?_⟩
 rcases (hg s).1 hs with hs | rfl
 ·exact Sd.mono (fun j p u _ e=>ha.ext.rep j p u e) (h.all s hs)
 ·exact by have:=ha.sd; rwa [Nat.sub_zero] at this
theorem Built.isTr {n:Nat} {gs:List Nat→Prop} {T:Twr} (h:Built n gs T) (hn:0<n) (hgd:∀ s,gs s→Gd n s):IsTr n (Gr n gs) (trOf T):=by
 have hT:Tow n 0 (fun i s=>s∈(T i).gens) (trOf T):=Lvl.tow fun j _ b=>⟨(h.full j b).1,(h.full j b).2.1⟩;have h1:=hT.isTr hn;have g0:∀ s,s∈(T 0).gens→Gd n s:=(h.full 0 hn).1.ggd
 have e:∀ x,Gr n gs x↔Gr n (fun s=>s∈(T 0).gens) x:=fun x=>by
  constructor
  ·intro hx
   refine Gr.sub (Gr.isG g0) (fun s hs=>?_) hx;exact hT.gr (i:=0) (Nat.le_refl _) hn (d:=n) (by omega) (hgd s hs) (h.all s hs) (by omega)
  ·intro hx
   exact Gr.sub (Gr.isG hgd) h.sub hx
 exact ⟨h1.rp,fun i p u hi hu=>(e u).2 (h1.mem i p u hi hu),fun i x hi hx=>h1.all i x hi ⟨(e x).1 hx.1,hx.2⟩⟩
end Go.Proofs.Cm

namespace Go.Proofs.YthehbckogieimaaGreat
open Go.RowKit
open Go.Proofs
open Go.Proofs.Cm (Lv Twr trOf)
attribute [local irreducible] Go.Calls
theorem add_all {n:Nat} (hn1:1≤n) (hn2:n≤64):∀ d i,n - i≤d→i<n→AddC n i∧∀ k,i≤k→k<n→CloseC n k
 | 0,i,hd,hi=>by omega
 | d+1,i,hd,hi=>by
  have ih:=add_all hn1 hn2 d
  have hc:∀ k,i≤k→k<n→CloseC n k:=fun k h1 h2=>by
   by_cases e:k=i
   ·subst e
    exact close_any hn1 hn2 h2 fun h=>(ih (k+1) (by omega) h).1
   ·exact (ih (i+1) (by omega) (by omega)).2 k (by omega) h2
  exact ⟨add_any hn1 hn2 hi hc,hc⟩
def lvZ:Array Value:=(Array.range 194).map (fun m=>if m<130 then Value.slice none 0 0 else .int .i64 0)
theorem infoLevel:(Tryz.prog.info? 210).map (fun i=>(i.zero.map Value.cells,i.size,i.bytes))=some (some lvZ,194,3632):=by kernel_rfl
theorem lvZ_at {m:Nat} (hm:m<194):lvZ[m]! = if m<130 then Value.slice none 0 0 else .int .i64 0:=by
 unfold lvZ;simp [hm]
theorem mkLevels (n:Nat) (hn:n≤1000000) (w:World):(Instr.makeSlice 200 (.int .i64 (n:Int)) (.int .i64 (n:Int))).run Tryz.prog w=.ok (.slice (some ⟨w.heap.size,0,none⟩) n n) (w.alloc (.cells (madeCells lvZ (n*194)) 210)):=by
 obtain ⟨i,hi,hz⟩:=Option.map_eq_some_iff.1 infoLevel;simp only [Prod.mk.injEq] at hz;obtain ⟨h1,h2,h3⟩:=hz;obtain ⟨z,hz,h1⟩:=Option.map_eq_some_iff.1 h1;have hr:=run_make (P:=Tryz.prog) w 200 210 i z Tryz.underlying200 hi hz .i64 .i64 (n:Int) (n:Int) (by omega) (Int.le_refl _) (by rw [h3]; omega) (by omega);rw [hr,h2,h1];simp
def lvV0:LV:={ g:=.slice none 0 0,us:=[],o:=.slice none 0 0,t:=fun _=>.slice none 0 0,b:=fun _=>.slice none 0 0 }
theorem TowAt.start {F:Nat→Prop} (n:Nat) (w:World) (hF:∀ k,F k→k<w.heap.size):TowAt F w.heap.size n (w.alloc (.cells (madeCells lvZ (n*194)) 210)) (Cm.newT n 0) (fun _=>lvV0):=by
 have hN:∀ j,Cm.newT n 0 j=Cm.lv0:=fun j=>if_neg (Nat.not_lt_zero _);refine ⟨fun k hk=>by have:=hF k hk; simp; omega,fun h=>by have:=hF _ h; omega,?_,fun i hi=>?_,fun i j hi hj hne k h1 h2=>?_⟩
 ·have h:=World.rowIs_alloc w (madeCells lvZ (n*194)) 210 (fun j=>cont (Cm.newT n 0 (j / 194)) lvV0 (j % 194)) (fun j hj=>?_)
  ·rwa [size_madeCells] at h
  ·have hs:lvZ.size=194:=by unfold lvZ; simp
   rw [size_madeCells] at hj;have hm:j % 194<194:=Nat.mod_lt _ (by decide);rw [hN]
   have e:(madeCells lvZ (n*194))[j]?=some (lvZ[j % 194]!):=by
    unfold madeCells;simp [hj,hs]
   rw [e,lvZ_at hm];unfold cont
   congr 1
   by_cases h0:j % 194=0
   ·simp [h0,lvV0]
   by_cases h1:j % 194=1
   ·simp [h1,lvV0]
   by_cases h2:j % 194<66
   ·simp [h0,h1,h2,lvV0]; omega
   by_cases h3:j % 194<130
   ·simp [h0,h1,h2,h3,lvV0]
   ·simp [h0,h1,h2,h3,Cm.lv0]
 ·rw [hN]
  refine ⟨?_,⟨rfl,fun i h=>absurd h (Nat.not_lt_zero _)⟩,?_,fun k h=>by simp [lvV0,Value.ownBlock] at h,fun k h=>by simp [lvV0,Value.ownBlock] at h,fun k h=>by simp [lvV0,Value.ownBlock] at h,fun p x _ h=>by simp [Cm.lv0] at h,fun p _ _=>⟨rfl,rfl⟩⟩
  ·exact World.ownsRow_nil ..
  ·exact World.ownsRow_nil ..
 ·rcases h1 with h1 | h1 <;> simp [lvV0,Value.ownBlock] at h1
def setO (T:Twr) (i p:Nat):Twr:=fun j=>if j=i then { T j with orb:=[p] } else T j
theorem newT_step (n k:Nat):setTo (setO (Cm.newT n k) k k) k k (Ma.oneN n)=Cm.newT n (k+1):=by
 funext j
 unfold setTo setO Cm.newT
 by_cases e:j=k
 ·subst e
  simp [Cm.lv0,Cm.lv1]
 ·by_cases h:j<k
  ·rw [if_neg e,if_neg e,if_pos h,if_pos (by omega)]
  ·rw [if_neg e,if_neg e,if_neg h,if_neg (by omega)]
theorem TowAt.newO {F:Nat→Prop} {L n:Nat} {w:World} {T:Twr} {V:Nat→LV} (h:TowAt F L n w T V) {i o:Nat} (hi:i<n) (ho:o=i*194+1) (p:Nat) :
  (∃ u,(w.alloc (.cells #[.int .i64 ((p:Nat):Int)] 3)).cell? ⟨L,o,none⟩=some u)∧(w.alloc (.cells #[.int .i64 ((p:Nat):Int)] 3)).frozen? ⟨L,o,none⟩=false ∧
  ∃ V',TowAt F L n ((w.alloc (.cells #[.int .i64 ((p:Nat):Int)] 3)).setCell ⟨L,o,none⟩ (.slice (some ⟨w.heap.size,0,none⟩) 1 1)) (setO T i p) V'∧KF F w ((w.alloc (.cells #[.int .i64 ((p:Nat):Int)] 3)).setCell ⟨L,o,none⟩ (.slice (some ⟨w.heap.size,0,none⟩) 1 1)):=by
 subst ho;have hv:=h.lv i hi;have hb:Below w.heap.size w (w.alloc (.cells #[.int .i64 ((p:Nat):Int)] 3)):=(Below.refl _ _).alloc (Nat.le_refl _) _;have hk1:Rg.Kp (fun _=>False) w (w.alloc (.cells #[.int .i64 ((p:Nat):Int)] 3)):=Rg.Kp.of_below hb
 have hsz:(w.alloc (.cells #[.int .i64 ((p:Nat):Int)] 3)).heap.size=w.heap.size+1:=by simp
 have hrow:=rowIs_kp h.row hk1 id;have hnew:=World.ownsRow_lit (base:=0) (e:=3) (size:=1) w #[.int .i64 ((p:Nat):Int)] 1 (Nat.zero_le _) (by unfold maxLen; omega) rfl;generalize (w.alloc (.cells #[.int .i64 ((p:Nat):Int)] 3))=X at *
 refine ⟨⟨_,(hb.cell (p:=⟨L,i*194+1,none⟩) h.lt).trans (getO h hi rfl)⟩,hrow.frozen _,fun j=>if j=i then { V i with o:=.slice (some ⟨w.heap.size,0,none⟩) 1 1 } else V j,?_⟩
 have hres:=put2 (T:=T) (T':=setO T i p) (V:=V) (V':=fun j=>if j=i then { V i with o:=.slice (some ⟨w.heap.size,0,none⟩) 1 1 } else V j) (x:=.slice (some ⟨w.heap.size,0,none⟩) 1 1)
  (fun k hk=>by have:=h.Flt k hk; omega) h.LF hrow (fun j hj hne=>(h.lv j hj).kp hk1 (fun _ _=>id) (fun _ _=>id))
  (fun a b ha hb hab _ _=>h.dist a b ha hb hab) hi (m:=1) (by omega) rfl (fun j hj=>⟨if_neg hj,if_neg hj⟩) ?_ ?_ ?_
 ·exact ⟨hres.1,Rg.Kp.trans (Rg.Kp.of_below hb) hres.2 (fun _ _ e=>e)⟩
 ·intro m' hm'
  simp only [if_true,setO];unfold cont
  by_cases h0:m'=0
  ·simp [h0]
  by_cases h1:m'=1
  ·simp [h1]
  ·simp [h0,h1]
 ·simp only [if_true,setO]
  have hv1:=hv.kp hk1 (fun _ _=>id) (fun _ _=>id);have hlt:=hv.lt;refine ⟨hv1.gown,hv1.gel,hnew,hv1.gF,?_,?_,hv1.some_,hv1.none_⟩
  ·intro k e
   have e:w.heap.size=k:=by simpa [Value.ownBlock] using e
   subst e;exact ⟨fun hf=>by have:=h.Flt _ hf; omega,by have:=h.lt; omega⟩
  ·intro k e e2
   have e2:w.heap.size=k:=by simpa [Value.ownBlock] using e2
   have:=hlt k (.inl e); omega
 ·intro j k hj hne e
  simp only [if_true] at e
  rcases e with e | e
  ·exact h.dist i j hi hj (Ne.symm hne) k (.inl e)
  ·have e:w.heap.size=k:=by simpa [Value.ownBlock] using e
   intro e2; have:=(h.lv j hj).lt k e2; omega

theorem Vqcl0 (args:Array Value) (w:World):(callFunc 122 args).run Tryz.prog w=.ok (.enter 122 args) w:=by kernel_rfl
theorem exec_buildTw {o:Oper} {a:Act} {w:World} {n:Int} {ad:Option Addr} {m c:Nat} (x y:Operand) (ho:o.op=.build 202 #[(0,x),(1,y)]) (hx:a.eval x=.int .i64 n) (hy:a.eval y=.slice ad m c) :
  (execOp a.eval o).run Tryz.prog w=.ok (.value (.agg #[.int .i64 n,.slice ad m c])) w:=by
 unfold execOp;simp only [ho,Sem.run_bind,Sem.run_pure];simp only [List.map_toArray,List.map_cons,List.map_nil,hx,hy]
 have h:(Instr.build 202 #[(0,.int .i64 n),(1,.slice ad m c)]).run Tryz.prog w=.ok (.agg #[.int .i64 n,.slice ad m c]) w:=by kernel_rfl
 first | (rw [h]; rfl) | (erw [h]; rfl)
theorem exec_makeSliceV {o:Oper} {a:Act} {w w':World} {v:Value} (t:TypeId) (x y:Operand) (ho:o.op=.makeSlice t x y) (n m:Value) (hx:a.eval x=n) (hy:a.eval y=m) (hr:(Instr.makeSlice t n m).run Tryz.prog w=.ok v w'):(execOp a.eval o).run Tryz.prog w=.ok (.value v) w':=by
 unfold execOp;simp [ho,hx,hy,hr,Result.andThen]
theorem newTower_any {n:Nat} (hn1:1≤n) (hn2:n≤64) (w:World) :
  Calls Tryz.prog 191 #[.int .i64 ((n:Nat):Int)] w fun e w'=>∃ (tb L:Nat) (F':Nat→Prop) (V':Nat→LV),e=.returned (.pointer (some ⟨tb,0,none⟩))∧KG (fun k=>k<w.heap.size) w F' w'∧TowAt F' L n w' (Cm.newT n n) V'∧CF F' w' tb 0 (.int .i64 ((n:Nat):Int))∧CF F' w' tb 1 (.slice (some ⟨L,0,none⟩) n n):=by
 have hs0:=TowAt.start (F:=fun k=>k<w.heap.size) n w (fun _ h=>h);have hb0:Below w.heap.size w (w.alloc (.cells (madeCells lvZ (n*194)) 210)):=(Below.refl _ _).alloc (Nat.le_refl _) _
 have hz0:(w.alloc (.cells (madeCells lvZ (n*194)) 210)).heap.size=w.heap.size+1:=by simp
 have hmk:=mkLevels n (by omega) w
 go_enter Tryz.func191,Tryz.ntmps191
 go_upto_region 1 with (fail);refine Rg.wl ?_;refine Rg.lm 6 (.int .i64 ((n:Nat):Int)) ?_;go_frame;refine Rg.lm 7 (.int .i64 ((n:Nat):Int)) ?_;go_frame;refine Rg.lr 8 (exec_makeSliceV _ _ _ rfl _ _ rfl rfl hmk) ?_;go_frame;generalize w.alloc (.cells (madeCells lvZ (n*194)) 210)=w1 at *;refine Rg.lr 9 (exec_buildTw _ _ rfl rfl rfl) ?_;go_frame;clear hmk;have hb1:Below w1.heap.size w1 (w1.alloc (.cells #[.int .i64 ((n:Nat):Int),.slice (some ⟨w.heap.size,0,none⟩) n n] 202)):=(Below.refl _ _).alloc (Nat.le_refl _) _
 have hz1:(w1.alloc (.cells #[.int .i64 ((n:Nat):Int),.slice (some ⟨w.heap.size,0,none⟩) n n] 202)).heap.size=w1.heap.size+1:=by simp
 have hcn:∀ o,(w1.alloc (.cells #[.int .i64 ((n:Nat):Int),.slice (some ⟨w.heap.size,0,none⟩) n n] 202)).cell? ⟨w1.heap.size,o,none⟩=(#[.int .i64 ((n:Nat):Int),.slice (some ⟨w.heap.size,0,none⟩) n n]:Array Value)[o]?:=fun o=>Rg.cellNew ..;refine Rg.lr 10 (Rg.exec_box _ _ rfl rfl) ?_;go_frame;generalize w1.alloc (.cells #[.int .i64 ((n:Nat):Int),.slice (some ⟨w.heap.size,0,none⟩) n n] 202)=w2 at *;refine Rg.la 3 (.pointer (some ⟨w1.heap.size,0,none⟩)) ?_;go_frame;have HT:=ι (hs0.up hb1);have hFn:Fup (fun k=>k<w.heap.size) w1 w2 w1.heap.size:=.inr ⟨Nat.le_refl _,by omega⟩;have C0:=ι (show CF _ _ w1.heap.size 0 (.int .i64 ((n:Nat):Int)) from ⟨hcn 0,hFn,by omega⟩);have C1:=ι (show CF _ _ w1.heap.size 1 (.slice (some ⟨w.heap.size,0,none⟩) n n) from ⟨hcn 1,hFn,by omega⟩)
 have K:=ι (show KG (fun k=>k<w.heap.size) w (Fup (fun k=>k<w.heap.size) w1 w2) w2 from ⟨fun k hk=>.inl hk,fun k hk=>by rcases hk with hk | hk <;> omega,KF.of_below (hb0.trans ⟨hb1.1,hb1.2,hb1.3,hb1.4,fun k hk=>hb1.5 k (by omega)⟩)⟩)
 generalize Fup (fun k=>k<w.heap.size) w1 w2=F0 at HT C0 C1 K;clear hFn;generalize w1.heap.size=tb at *;obtain ⟨L,hL⟩:∃ L,w.heap.size=L:=⟨_,rfl⟩;rw [hL] at HT C1 ⊢;clear hs0 hb0 hz0 hb1 hz1 hcn;go_upto_region 2 with (fail);refine Rg.wl ?_;refine Rg.lm 11 (.pointer (some ⟨tb,0,none⟩)) ?_;go_frame;refine Rg.lr 12 (exec_nil _ rfl rfl) ?_;go_frame;refine Rg.lr 13 (exec_field _ rfl rfl (towF1 _ _)) ?_;go_frame;refine Rg.lr 14 (Rg.exec_load (v:=.slice (some ⟨L,0,none⟩) n n) _ _ rfl ⟨tb,1,none⟩ rfl (Rg.run_loadSl _ _ Tryz.underlying200 C1.out.cell)) ?_;go_frame;refine Rg.lr 15 (exec_len _ _ _ rfl Tryz.underlying200 _ _ _ rfl) ?_;go_frame;refine Rg.lm 16 (.int .i64 ((0:Nat):Int)) ?_;go_frame;go_wp2
 go_loopw [16] (fun kv wr=>∃ (k:Nat) (F1:Nat→Prop) (V1:Nat→LV),kv=.int .i64 k∧k≤n∧Hid (TowAt F1 L n wr (Cm.newT n k) V1)∧Hid (CF F1 wr tb 0 (.int .i64 ((n:Nat):Int)))∧Hid (CF F1 wr tb 1 (.slice (some ⟨L,0,none⟩) n n))∧Hid (KG (fun k=>k<w.heap.size) w F1 wr)) (fun kv _=>n - (intOf kv).toNat)
 case atStart=>exact ⟨0,F0,_,rfl,Nat.zero_le _,HT,C0,C1,K⟩
 case round =>
  clear HT C0 C1 K;obtain ⟨k,F0,V1,rfl,hk,HT,C0,C1,K⟩:=hrel
  by_cases hkl:k<n
  ·have hkN:(k:Int)<(n:Int):=by omega
   have hk64:k<64:=by omega
   go_upto_region 5 with (fail);refine Rg.wl ?_;refine Rg.lm 19 (.pointer (some ⟨tb,0,none⟩)) ?_;go_frame;refine Rg.lr 20 (exec_nil _ rfl rfl) ?_;go_frame;refine Rg.lr 21 (exec_field _ rfl rfl (towF1 _ _)) ?_;go_frame;refine Rg.lr 22 (Rg.exec_load (v:=.slice (some ⟨L,0,none⟩) n n) _ _ rfl ⟨tb,1,none⟩ rfl (Rg.run_loadSl _ _ Tryz.underlying200 C1.out.cell)) ?_;go_frame;refine Rg.lm 23 (.int .i64 ((k:Nat):Int)) ?_;go_frame;refine Rg.lr 24 (exec_indexZ0 _ _ rfl Tryz.underlying200 szLevel L (n) (n) (k) rfl rfl hkl) ?_;go_frame;refine Rg.la 5 (.pointer (some ⟨L,k*194,none⟩)) ?_;go_frame;go_upto_region 6 with (fail);refine Rg.wl ?_;refine Rg.lm 25 (.pointer (some ⟨L,k*194,none⟩)) ?_;go_frame;refine Rg.lm 26 (.int .i64 ((k:Nat):Int)) ?_;go_frame;refine Rg.lr 27 (Rg.exec_buildSlice _ _ _ rfl (.int .i64 ((k:Nat):Int)) rfl (run_build1i wr _)) ?_;go_frame;obtain ⟨⟨u5,r2⟩,r3,V5,r4,r5⟩:=HT.out.newO hkl (o:=k*194+1) rfl k
   refine Rg.lr 28 (exec_nil _ rfl rfl) ?_;go_frame;refine Rg.lr 29 (exec_field _ rfl rfl (lvF1 _ _ _)) ?_;go_frame;refine Rg.list_skip none rfl rfl (Rg.exec_store _ _ _ rfl _ rfl _ rfl (Rg.run_storeSl _ infoInts r2 r3)) ?_;go_frame;clear r2 r3;have hkg:=KG.kf' (KG.refl HT.out.Flt) r5;generalize (wr.alloc (.cells #[.int .i64 ((k:Nat):Int)] 3)).setCell ⟨L,k*194+1,none⟩ (.slice (some ⟨wr.heap.size,0,none⟩) 1 1)=w20 at *;replace C0:=ι (C0.out.kg hkg);replace C1:=ι (C1.out.kg hkg);replace K:=ι (K.out.trans hkg);replace HT:=ι r4;clear hkg r4 r5;go_upto_region 7 with (fail);have hV0:Below w20.heap.size w20 w20.drew:=(Below.refl _ _).drew;replace HT:=ι (HT.out.up hV0);replace C0:=ι (C0.out.up hV0);replace C1:=ι (C1.out.up hV0);replace K:=ι (K.out.up hV0);generalize Fup F0 w20 w20.drew=F1 at *;clear hV0;refine Rg.Any.begin (S:=Rg.Both 11 (fun W=>Below w20.drew.heap.size w20.drew W) (fun _=>True)) mix ?_
   generalize w20.drew=w21 at *;have hS:∀ (l:Array Bool) W,Below w21.heap.size w21 W→Rg.Both 11 (fun W=>Below w21.heap.size w21 W) (fun _=>True) l W:=fun l W h=>⟨.inr h,trivial⟩;have hS2:∀ (l:Array Bool) W,l.getD 11 false=true→Rg.Both 11 (fun W=>Below w21.heap.size w21 W) (fun _=>True) l W:=fun l W h=>⟨.inl h,trivial⟩;have hI:Below w21.heap.size w21 w21:=Below.refl _ _;refine Rg.tm 0 11 (.pointer (some ⟨L,k*194,none⟩)) 30 (hS _ _ hI) ?_;go_frame;refine Rg.tm 1 11 (.int .i64 ((k:Nat):Int)) 31 (hS _ _ hI) ?_;go_frame;refine Rg.tm 2 11 (.pointer (some ⟨L,k*194,none⟩)) 32 (hS _ _ hI) ?_;go_frame;refine Rg.tm 3 11 (.int .i64 ((k:Nat):Int)) 33 (hS _ _ hI) ?_;go_frame;refine Rg.tm 4 11 (.int .i64 ((n:Nat):Int)) 34 (hS _ _ hI) ?_;go_frame;refine Rg.tm 6 11 (.int .i64 ((n:Nat):Int)) 36 (hS _ _ hI) ?_;go_frame;refine Rg.tg 8 11 (.pointer (some ⟨L,k*194,none⟩)) 38 rfl rfl (.inl ⟨rfl,fun w _=>exec_nil _ rfl rfl⟩) (hS _ _ hI) ?_;go_frame
   refine Rg.tg 9 11 (.pointer (some ⟨L,k*194+2,none⟩)) 39 rfl rfl (.inl ⟨rfl,fun w _=>exec_field _ rfl rfl (lvF2 _ _ _)⟩) (hS _ _ hI) ?_;go_frame;refine Rg.tg 12 11 (.pointer (some ⟨L,k*194,none⟩)) 41 rfl rfl (.inl ⟨rfl,fun w _=>exec_nil _ rfl rfl⟩) (hS _ _ hI) ?_;go_frame;refine Rg.tg 13 11 (.pointer (some ⟨L,k*194+66,none⟩)) 42 rfl rfl (.inl ⟨rfl,fun w _=>exec_field _ rfl rfl (lvF3 _ _ _)⟩) (hS _ _ hI) ?_;go_frame;refine Rg.Any.one (i:=5) (by kernel_rfl) (Rg.Any.ask (some 35) rfl rfl rfl _ _ (exec_fn1 122 _ _ rfl rfl (Vqcl0 _ _)) ?_);refine (chOne_f (F:=F1) n w21 hn2).mono ?_;rintro e1 w22 ⟨av,rfl,hav,hb⟩;obtain ⟨ab,ao,ac,rfl⟩:=hav.shape' (Cm.gd_one n) hn1;have hI2_u:=Rg.acc hI hb;clear hI;replace HT:=ι (HT.out.up hb);replace C0:=ι (C0.out.up hb);replace C1:=ι (C1.out.up hb);replace K:=ι (K.out.up hb);have AF:=ι hav;generalize Fup F1 w21 w22=F2 at *
   clear hb;refine ⟨_,rfl,(hS _ _ hI2_u),?_⟩;go_frame;refine Rg.Any.one (i:=7) (by kernel_rfl) (Rg.Any.ask (some 37) rfl rfl rfl _ _ (exec_fn1 122 _ _ rfl rfl (Vqcl0 _ _)) ?_);refine (chOne_f (F:=F2) n w22 hn2).mono ?_;rintro e1 w23 ⟨bv,rfl,hbv,hb⟩;obtain ⟨bb,bo,bc,rfl⟩:=hbv.shape' (Cm.gd_one n) hn1;have hI3_u:=Rg.acc hI2_u hb;clear hI2_u;replace HT:=ι (HT.out.up hb);replace C0:=ι (C0.out.up hb);replace C1:=ι (C1.out.up hb);replace AF:=ι (AF.out.up hb);replace K:=ι (K.out.up hb);have BF:=ι hbv;generalize Fup F2 w22 w23=F3 at *;clear hb;refine ⟨_,rfl,(hS _ _ hI3_u),?_⟩;go_frame;refine Rg.tg 10 11 (.pointer (some ⟨L,k*194+2+k,none⟩)) 40 rfl rfl (.inl ⟨rfl,fun w _=>exec_indexArr _ _ rfl Tryz.underlying207 szP L (k*194+2) (k) rfl rfl hk64⟩) (hS _ _ hI3_u) ?_;go_frame;refine Rg.Any.one (i:=11) (by kernel_rfl) (Rg.Any.runSkip none rfl rfl rfl (Rg.exec_store _ _ _ rfl _ rfl _ rfl (Rg.run_storeSl _ infoPerm (getTo HT.out hkl hk64 (by omega)) (HT.out.frozen _))) (hS2 _ _ rfl) ?_)
   go_frame;refine Rg.tg 14 11 (.pointer (some ⟨L,k*194+66+k,none⟩)) 43 rfl rfl (.inl ⟨rfl,fun w _=>exec_indexArr _ _ rfl Tryz.underlying207 szP L (k*194+66) (k) rfl rfl hk64⟩) (hS2 _ _ rfl) ?_;go_frame;have hr1:=HT.out.row.set (k*194+2+k) (.slice (some ⟨ab,ao,none⟩) n ac);refine Rg.Any.one (i:=15) (by kernel_rfl) (Rg.Any.runSkip none rfl rfl rfl (Rg.exec_store _ _ _ rfl _ rfl _ rfl (Rg.run_storeSl _ infoPerm (hr1.cell (by omega)) (hr1.frozen _))) (hS2 _ _ rfl) ?_);go_frame;clear hr1;refine Rg.Any.done (by kernel_rfl) ?_ _;clear hS2;clear hS hI3_u;obtain ⟨V4,hT4,hk4⟩:=HT.out.setTo hkl hk64 (o1:=k*194+2+k) (o2:=k*194+66+k) (by omega) (by omega) AF.out (by rw [Cm.inv_one]; exact BF.out);rw [newT_step] at hT4;have hkg:=KG.kf' (KG.refl HT.out.Flt) hk4;generalize (w23.setCell ⟨L,k*194+2+k,none⟩ (.slice (some ⟨ab,ao,none⟩) n ac)).setCell ⟨L,k*194+66+k,none⟩ (.slice (some ⟨bb,bo,none⟩) n bc)=w60 at *
   replace C0:=ι (C0.out.kg hkg);replace C1:=ι (C1.out.kg hkg);replace K:=ι (K.out.trans hkg);replace HT:=ι hT4;clear hkg hk4 hT4 AF BF;go_wp2
   go_roundw
   case rel=>exact ⟨k+1,_,V4,by go_num,by omega,HT,C0,C1,K⟩
   case measure=>simp [intOf]; omega
  ·obtain rfl:k=n:=by omega
   have hkN:¬ (k:Int)<(k:Int):=by omega
   go_wp2;go_ret;exact ⟨tb,rfl,L,F0,by rw [← hL]; exact K.out,⟨V1,HT.out⟩,C0.out,C1.out⟩

theorem Vrcl0 (args:Array Value) (w:World):(callFunc 191 args).run Tryz.prog w=.ok (.enter 191 args) w:=by kernel_rfl
def GS (F:Nat→Prop) (w:World) (v:Value) (gs:List (List Nat)):Prop:=∃ a c,v=.slice a gs.length c∧(0<gs.length→∃ b o,a=some ⟨b,o,none⟩∧∀ k (hk:k<gs.length),∃ u,CF F w b (o+k) u∧FP F w u gs[k])
theorem FP.of_np {w:World} {v:Value} {x:List Nat} (h:Rg.NP w v x):FP (fun k=>k<w.heap.size) w v x:=by
 obtain ⟨a,cap,h1,h2,h3,h4,h5⟩:=h;refine ⟨a,cap,h1,h2,h3,h4,fun h0=>?_⟩;obtain ⟨b,o,e1,e2,e3⟩:=h5 h0;exact ⟨b,o,e1,e2,e2,e3⟩
theorem GS.of_rows {w:World} {v:Value} {gs:List (List Nat)} (h:Rg.Rows w v (gs.map Ma.ofN)):GS (fun k=>k<w.heap.size) w v gs:=by
 obtain ⟨a,cap,e,h2,h3,h4,h5⟩:=h.shape;rw [List.length_map] at e;refine ⟨a,cap,e,fun h0=>?_⟩;obtain ⟨b,o,e1,e2,e3⟩:=h5 (by rw [List.length_map]; exact h0);refine ⟨b,o,e1,fun k hk=>?_⟩;obtain ⟨u,hu,hi⟩:=e3 k (by rw [List.length_map]; exact hk);rw [List.getElem_map] at hi;exact ⟨u,⟨hu,e2,e2⟩,FP.of_np hi⟩
theorem build_any {n:Nat} (hn1:1≤n) (hn2:n≤64) {w:World} {v:Value} {gs:List (List Nat)} (hv:GS (fun k=>k<w.heap.size) w v gs) (hg:∀ s∈gs,Cm.Gd n s) (hgl:gs.length≤1000000) :
  Calls Tryz.prog 117 #[.int .i64 ((n:Nat):Int),v] w fun e w'=>∃ (tb L:Nat) (F':Nat→Prop) (T':Twr) (V':Nat→LV),e=.returned (.pointer (some ⟨tb,0,none⟩))∧KG (fun k=>k<w.heap.size) w F' w'∧TowAt F' L n w' T' V'∧CF F' w' tb 0 (.int .i64 ((n:Nat):Int))∧CF F' w' tb 1 (.slice (some ⟨L,0,none⟩) n n)∧Cm.Built n (·∈gs) T':=by
 obtain ⟨ga,gc,rfl,hgs⟩:=hv;have HGS:=ι hgs;have HG:=ι hg;have HADD:=ι ((add_all hn1 hn2 n 0 (by omega) (by omega)).1);clear hgs hg
 go_enter Tryz.func117,Tryz.ntmps117
 go_upto_region 1 with (fail);refine Rg.wl ?_;refine Rg.lm 8 (.int .i64 ((n:Nat):Int)) ?_;go_frame;refine Rg.lk 9 (exec_fn1 191 _ _ rfl rfl (Vrcl0 _ _)) ?_;refine (newTower_any hn1 hn2 w).mono ?_;rintro e1 w1 ⟨tb,L,F1,V1,rfl,hk1,hT1,hc01,hc11⟩;refine ⟨_,rfl,?_⟩;go_frame;have HT:=ι hT1;have C0:=ι hc01;have C1:=ι hc11;have K:=ι hk1;clear hk1;refine Rg.la 5 (.pointer (some ⟨tb,0,none⟩)) ?_;go_frame;clear hT1 hc01 hc11;have HB:=ι (show Cm.Built n (·∈gs.take 0) (Cm.newT n n) by have:=Cm.Built.new (n:=n); simpa using this);go_wp2
 go_loopw [12] (fun kv wr=>∃ (k:Nat) (F1:Nat→Prop) (T1:Twr) (V1:Nat→LV),kv=.int .i64 k∧k≤gs.length∧Hid (TowAt F1 L n wr T1 V1)∧Hid (CF F1 wr tb 0 (.int .i64 ((n:Nat):Int)))∧Hid (CF F1 wr tb 1 (.slice (some ⟨L,0,none⟩) n n))∧Hid (KG (fun k=>k<w.heap.size) w F1 wr)∧Hid (Cm.Built n (·∈gs.take k) T1)) (fun kv _=>gs.length - (intOf kv).toNat)
 case atStart=>exact ⟨0,F1,_,V1,rfl,Nat.zero_le _,HT,C0,C1,K,HB⟩
 case round =>
  clear HT C0 C1 K HB;obtain ⟨k,F1,T1,V1,rfl,hk,HT,C0,C1,K,HB⟩:=hrel
  by_cases hkl:k<gs.length
  ·have hkN:(k:Int)<(gs.length:Int):=by omega
   have hgs:=HGS.out;obtain ⟨gb,go,rfl,hgk⟩:=hgs (by omega);obtain ⟨u,hcu,hpu⟩:=hgk k hkl;have GX:=ι (HG.out _ (List.getElem_mem hkl));obtain ⟨x,hx⟩:∃ x,Hid (gs[k]=x):=⟨_,ι rfl⟩;rw [hx.out] at hpu GX;obtain ⟨ub,uo,uc,rfl⟩:=hpu.shape' GX.out hn1;have CU:=ι (hcu.kg K.out);have X:=ι (hpu.kg K.out);have HKL:=ι hkl;clear hgs hgk hcu hpu;go_upto_region 4 with (fail);refine Rg.wl ?_;refine Rg.lr 14 (exec_indexS slPerms _ _ rfl gb (go) (gs.length) gc (k) rfl rfl HKL.out) ?_;go_frame;refine Rg.lr 15 (Rg.exec_load (v:=.slice (some ⟨ub,uo,none⟩) n uc) _ _ rfl ⟨gb,go+k,none⟩ rfl (Rg.run_loadSl _ _ Tryz.underlying51 CU.out.cell)) ?_;go_frame;refine Rg.la 7 (.slice (some ⟨ub,uo,none⟩) n uc) ?_;go_frame;go_upto_region 5 with (fail);refine Rg.wl ?_;refine Rg.lm 16 (.pointer (some ⟨tb,0,none⟩)) ?_;go_frame;refine Rg.lm 17 (.slice (some ⟨ub,uo,none⟩) n uc) ?_;go_frame
   refine Rg.lk 18 (exec_fn3 192 _ _ _ _ rfl rfl rfl rfl (Vncl2 _ _)) ?_;refine (HADD.out _ L tb _ _ _ _ _ HT.out C0.out C1.out X.out GX.out (fun j h=>absurd h (Nat.not_lt_zero _)) (fun j _ h=>HB.out.full j h)).mono ?_;rintro e1 w11 ⟨F9,T9,V9,rfl,hk9,hT9,hA9⟩;have HB2:=ι (HB.out.add (gs':=(·∈gs.take (k+1))) (fun s=>by rw [List.take_succ_eq_append_getElem HKL.out,hx.out]; simp) (fun s hs=>HG.out s (List.mem_of_mem_take hs)) hA9);clear hA9;refine ⟨_,rfl,?_⟩;go_frame;replace HT:=ι hT9;replace C0:=ι (C0.out.kg hk9);replace C1:=ι (C1.out.kg hk9);replace CU:=ι (CU.out.kg hk9);replace X:=ι (X.out.kg hk9);replace K:=ι (K.out.trans hk9);clear hk9 hT9;go_wp2
   go_roundw
   case rel=>exact ⟨k+1,F9,T9,V9,by go_num,HKL.out,HT,C0,C1,K,HB2⟩
   case measure=>simp [intOf]; have:=HKL.out; omega
  ·obtain rfl:k=gs.length:=by omega
   have hkN:¬ (gs.length:Int)<(gs.length:Int):=by omega
   have HB2:=ι (by have:=HB.out; rwa [List.take_length] at this);go_wp2;go_ret;exact ⟨tb,rfl,L,F1,K.out,T1,⟨V1,HT.out⟩,C0.out,C1.out,HB2.out⟩
end Go.Proofs.YthehbckogieimaaGreat

namespace Go.Proofs.YthehbckogieimaaGreat
open Go.RowKit
open Go.Proofs
open Go.Proofs.Cm (Lv Twr trOf)
attribute [local irreducible] Go.Calls Go.wpList
theorem least_any {n:Nat} (hn1:1≤n) (hn2:n≤64) {F0:Nat→Prop} {L tb:Nat} {w:World} {T:Twr} {V:Nat→LV} {H:List Nat→Prop} (hT:TowAt F0 L n w T V) (hc0:CF F0 w tb 0 (.int .i64 ((n:Nat):Int))) (hc1:CF F0 w tb 1 (.slice (some ⟨L,0,none⟩) n n)) (hH:Cm.IsG n H) (htr:Cm.IsTr n H (trOf T)) (hl:∀ j,j<n→Cm.Lvl n T j)
  {xv:Value} {x:List Nat} {i:Nat} (hx:FP F0 w xv x) (gx:Cm.Gd n x) (hi:i<n) :
  Calls Tryz.prog 195 #[.pointer (some ⟨tb,0,none⟩),xv,.int .i64 ((i:Nat):Int)] w fun e w'=>∃ F' yv y,e=.returned yv∧KG F0 w F' w'∧TowAt F' L n w' T V∧FP F' w' yv y∧Cm.LI H i n x y∧Cm.Gd n y∧Below w.heap.size w w':=by
 have K:=ι (KG.refl hT.Flt);have HT:=ι hT;have C0:=ι hc0;have C1:=ι hc1;have X:=ι hx;have HH:=ι hH;have HTR:=ι htr;have HL:=ι hl;have GX:=ι gx;have KB:=ι (Below.refl w.heap.size w);have HLI:=ι (Cm.LI.start hH hi gx);have hg0:=hc0.cell;clear hT hc0 hc1 hx hH htr hl gx
 go_enter Tryz.func195,Tryz.ntmps195
 go_wp2
 go_loopw [7,1] (fun kv yv wr=>∃ (k:Nat) (y:List Nat) (F1:Nat→Prop),kv=.int .i64 k∧i<k∧k≤n∧Hid (FP F1 wr yv y)∧Hid (TowAt F1 L n wr T V)∧Hid (CF F1 wr tb 0 (.int .i64 ((n:Nat):Int)))∧Hid (CF F1 wr tb 1 (.slice (some ⟨L,0,none⟩) n n))∧Hid (KG F0 w F1 wr)∧Hid (Below w.heap.size w wr)∧Hid (Cm.Gd n y)∧Hid (Cm.LI H i k x y)) (fun kv _ _=>n - (intOf kv).toNat)
 case atStart=>exact ⟨i+1,x,F0,by go_num,by omega,by omega,X,HT,C0,C1,K,KB,GX,HLI⟩
 case round =>
  clear X HT C0 C1 K KB hg0 HLI;obtain ⟨k,y,F,rfl,hk1,hk2,X,HT,C0,C1,K,KB,GY,HLI⟩:=hrel;have hg0:=C0.out.cell
  by_cases hkl:k<n
  ·have hkN:(k:Int)<(n:Int):=by omega
   obtain ⟨yb,yo,yc,rfl⟩:=X.out.shape' GY.out hn1;have hlk:=HL.out k hkl;obtain ⟨oa,oc,hVo⟩:=HT.out.orbL hkl;have CO:=ι (CL.mk (show wr.cell? ⟨L,k*194+1,none⟩=some (.slice oa (T k).orb.length oc) by rw [getO HT.out hkl rfl,hVo]) HT.out.lt);have HK0:=ι (show ∀ m (h:m<(T k).orb.length),m<0→Cm.ap y k≤Cm.ap y (T k).orb[m] from fun m _ h=>absurd h (Nat.not_lt_zero _));have HBK:=ι (show ∃ u,trOf T k k=some u from ⟨_,hlk.self⟩);have HKL:=ι hkl;clear hlk;go_upto_region 5 with (fail);refine Rg.wl ?_;refine Rg.lm 22 (.pointer (some ⟨tb,0,none⟩)) ?_;go_frame;refine Rg.lr 23 (exec_nil _ rfl rfl) ?_;go_frame;refine Rg.lr 24 (exec_field _ rfl rfl (towF1 _ _)) ?_;go_frame;refine Rg.lr 25 (Rg.exec_load (v:=.slice (some ⟨L,0,none⟩) n n) _ _ rfl ⟨tb,1,none⟩ rfl (Rg.run_loadSl _ _ Tryz.underlying200 C1.out.cell)) ?_;go_frame;refine Rg.lm 26 (.int .i64 ((k:Nat):Int)) ?_;go_frame
   refine Rg.lr 27 (exec_indexZ0 _ _ rfl Tryz.underlying200 szLevel L (n) (n) (k) rfl rfl HKL.out) ?_;go_frame;refine Rg.lr 28 (exec_field _ rfl rfl (lvF1 _ _ _)) ?_;go_frame;refine Rg.lr 29 (Rg.exec_load (v:=.slice oa (T k).orb.length oc) _ _ rfl ⟨L,k*194+1,none⟩ rfl (Rg.run_loadSl _ _ Tryz.underlying36 CO.out.cell)) ?_;go_frame;refine Rg.lr 30 (exec_len _ _ _ rfl Tryz.underlying36 _ _ _ rfl) ?_;go_frame;refine Rg.lm 31 (.int .i64 ((0:Nat):Int)) ?_;go_frame;clear CO hg0;go_wp2
   go_loopw [8,31] (fun bv iv wr=>∃ (b m:Nat) (F1:Nat→Prop),bv=.int .i64 b∧iv=.int .i64 m∧m≤(T k).orb.length∧b<n∧Hid (FP F1 wr (.slice (some ⟨yb,yo,none⟩) n yc) y)∧Hid (TowAt F1 L n wr T V)∧Hid (CF F1 wr tb 0 (.int .i64 ((n:Nat):Int)))∧Hid (CF F1 wr tb 1 (.slice (some ⟨L,0,none⟩) n n))∧Hid (KG F0 w F1 wr)∧Hid (Below w.heap.size w wr)∧Hid (∃ u,trOf T k b=some u)∧Hid (∀ m' (h:m' < (T k).orb.length),m' < m→Cm.ap y b≤Cm.ap y (T k).orb[m'])) (fun _ iv _=>(T k).orb.length - (intOf iv).toNat)
   case atStart=>exact ⟨k,0,F,rfl,rfl,Nat.zero_le _,hkl,X,HT,C0,C1,K,KB,HBK,HK0⟩
   case round =>
    clear X HT C0 C1 K KB HBK HK0;obtain ⟨b,m,F,rfl,rfl,hm,hbn,X,HT,C0,C1,K,KB,HBK,HK0⟩:=hrel;have hoo:=Cm.orb_len (HL.out k hkl)
    have hoN:((T k).orb.length:Int)≤64:=by omega
    by_cases hml:m<(T k).orb.length
    ·have hmN:(m:Int)<((T k).orb.length:Int):=by omega
     obtain ⟨og,oc2,hVo2,hcell,hol⟩:=HT.out.orbS hkl hml;rw [hVo] at hVo2
     injection hVo2 with e1 _ e2
     subst e1 e2;obtain ⟨q,hq⟩:∃ q:Nat,Hid (q=(T k).orb[m]):=⟨_,ι rfl⟩;rw [← hq.out] at hcell;have CQ:=ι (CL.mk hcell hol);have HML:=ι hml;have hqr:=((HL.out k hkl).orb q).1 (by rw [hq.out]; exact List.getElem_mem hml);have HQR:=ι (show ∃ u,trOf T k q=some u from hqr)
     have hqn:q<n:=by obtain ⟨u,hu⟩:=hqr; exact (HL.out k hkl).tlt q u hu
     have CXq:=ι (X.out.ap GY.out hqn);have CXb:=ι (X.out.ap GY.out hbn);obtain ⟨yq,hyq⟩:∃ z:Nat,Hid (z=Cm.ap y q):=⟨_,ι rfl⟩;obtain ⟨yb',hyb⟩:∃ z:Nat,Hid (z=Cm.ap y b):=⟨_,ι rfl⟩;rw [← hyq.out] at CXq;rw [← hyb.out] at CXb;clear hcell hol hqr
     by_cases hlt:yq<yb'
     ·have hltN:(yq:Int)<(yb':Int):=by omega
      go_upto_region 7 with (fail);refine Rg.wl ?_;refine Rg.lr 33 (exec_indexS slInts _ _ rfl og (0) ((T k).orb.length) oc (m) rfl rfl HML.out) ?_;go_frame;refine Rg.lr 34 (Rg.exec_load (v:=.int .i64 ((q:Nat):Int)) _ _ rfl ⟨og,0+m,none⟩ rfl (run_loadInt CQ.out.cell)) ?_;go_frame;refine Rg.la 10 (.int .i64 ((q:Nat):Int)) ?_;go_frame;go_upto_region 8 with (fail);have hV1:Below wr.heap.size wr wr.drew:=(Below.refl _ _).drew;replace KB:=ι (Rg.acc KB.out hV1);clear hV1;have hV0:Below wr.heap.size wr wr.drew:=(Below.refl _ _).drew;replace HT:=ι (HT.out.up hV0);replace C0:=ι (C0.out.up hV0);replace C1:=ι (C1.out.up hV0);replace X:=ι (X.out.up hV0);replace CQ:=ι (CQ.out.up hV0);replace CXq:=ι (CXq.out.up hV0);replace CXb:=ι (CXb.out.up hV0);replace K:=ι (K.out.up hV0);generalize Fup F wr wr.drew=F1 at *;clear hV0;refine Rg.Any.begin (S:=Rg.Both 8 (fun _=>True) (fun W=>Below wr.drew.heap.size wr.drew W)) mix ?_
      generalize wr.drew=w1 at *;have hS:∀ (l:Array Bool) W,Below w1.heap.size w1 W→Rg.Both 8 (fun _=>True) (fun W=>Below w1.heap.size w1 W) l W:=fun l W h=>⟨.inr trivial,h⟩;have hI:Below w1.heap.size w1 w1:=Below.refl _ _;refine Rg.tm 0 8 (.slice (some ⟨yb,yo,none⟩) n yc) 35 (hS _ _ hI) ?_;go_frame;refine Rg.tm 1 8 (.int .i64 ((q:Nat):Int)) 36 (hS _ _ hI) ?_;go_frame;refine Rg.tg 2 8 (.pointer (some ⟨yb,yo+q,none⟩)) 37 rfl rfl (Rg.yields_index slPerm _ _ rfl rfl yb (yo) (n) yc (q) rfl rfl hqn) (hS _ _ hI) ?_;go_frame;refine Rg.tg 3 8 (.int .i64 ((yq:Nat):Int)) 38 rfl rfl (Rg.yields_cell _ _ rfl rfl ⟨yb,yo+q,none⟩ rfl (fun W hW=>run_loadInt ((Below.cell (p:=⟨yb,yo+q,none⟩) hW CXq.out.lt).trans CXq.out.cell))) (hS _ _ hI) ?_;go_frame;refine Rg.tm 4 8 (.slice (some ⟨yb,yo,none⟩) n yc) 39 (hS _ _ hI) ?_;go_frame;refine Rg.tm 5 8 (.int .i64 ((b:Nat):Int)) 40 (hS _ _ hI) ?_;go_frame
      refine Rg.tg 6 8 (.pointer (some ⟨yb,yo+b,none⟩)) 41 rfl rfl (Rg.yields_index slPerm _ _ rfl rfl yb (yo) (n) yc (b) rfl rfl hbn) (hS _ _ hI) ?_;go_frame;refine Rg.tg 7 8 (.int .i64 ((yb':Nat):Int)) 42 rfl rfl (Rg.yields_cell _ _ rfl rfl ⟨yb,yo+b,none⟩ rfl (fun W hW=>run_loadInt ((Below.cell (p:=⟨yb,yo+b,none⟩) hW CXb.out.lt).trans CXb.out.cell))) (hS _ _ hI) ?_;go_frame;refine Rg.Any.one (i:=8) (by kernel_rfl) (Rg.Any.run (some 43) rfl rfl rfl (exec_bin (R:=.bool true) .lss _ _ _ rfl rfl rfl (b_lss _ Rg.dT)) (hS _ _ hI) ?_);go_frame;refine Rg.Any.done (by kernel_rfl) ?_ _;clear hS hI
      have HK1:=ι (show ∀ m' (h:m' < (T k).orb.length),m' < m+1→Cm.ap y q≤Cm.ap y (T k).orb[m'] from fun m' h h2=>by
       have a1:=hyq.out;have a2:=hyb.out
       by_cases e:m'=m
       ·subst e
        rw [← hq.out]; omega
       ·have:=HK0.out m' h (by omega)
        omega)
      simp only [Nat.zero_add];go_wp2
      go_roundw
      case rel=>exact ⟨q,m+1,_,rfl,by go_num,HML.out,hqn,X,HT,C0,C1,K,KB,HQR,HK1⟩
      case measure=>simp [intOf]; have:=HML.out; omega
     ·have hltN:¬ (yq:Int)<(yb':Int):=by omega
      go_upto_region 7 with (fail);refine Rg.wl ?_;refine Rg.lr 33 (exec_indexS slInts _ _ rfl og (0) ((T k).orb.length) oc (m) rfl rfl HML.out) ?_;go_frame;refine Rg.lr 34 (Rg.exec_load (v:=.int .i64 ((q:Nat):Int)) _ _ rfl ⟨og,0+m,none⟩ rfl (run_loadInt CQ.out.cell)) ?_;go_frame;refine Rg.la 10 (.int .i64 ((q:Nat):Int)) ?_;go_frame;go_upto_region 8 with (fail);have hV1:Below wr.heap.size wr wr.drew:=(Below.refl _ _).drew;replace KB:=ι (Rg.acc KB.out hV1);clear hV1;have hV0:Below wr.heap.size wr wr.drew:=(Below.refl _ _).drew;replace HT:=ι (HT.out.up hV0);replace C0:=ι (C0.out.up hV0);replace C1:=ι (C1.out.up hV0);replace X:=ι (X.out.up hV0);replace CQ:=ι (CQ.out.up hV0);replace CXq:=ι (CXq.out.up hV0);replace CXb:=ι (CXb.out.up hV0);replace K:=ι (K.out.up hV0);generalize Fup F wr wr.drew=F1 at *;clear hV0;refine Rg.Any.begin (S:=Rg.Both 8 (fun _=>True) (fun W=>Below wr.drew.heap.size wr.drew W)) mix ?_
      generalize wr.drew=w2 at *;have hS:∀ (l:Array Bool) W,Below w2.heap.size w2 W→Rg.Both 8 (fun _=>True) (fun W=>Below w2.heap.size w2 W) l W:=fun l W h=>⟨.inr trivial,h⟩;have hI:Below w2.heap.size w2 w2:=Below.refl _ _;refine Rg.tm 0 8 (.slice (some ⟨yb,yo,none⟩) n yc) 35 (hS _ _ hI) ?_;go_frame;refine Rg.tm 1 8 (.int .i64 ((q:Nat):Int)) 36 (hS _ _ hI) ?_;go_frame;refine Rg.tg 2 8 (.pointer (some ⟨yb,yo+q,none⟩)) 37 rfl rfl (Rg.yields_index slPerm _ _ rfl rfl yb (yo) (n) yc (q) rfl rfl hqn) (hS _ _ hI) ?_;go_frame;refine Rg.tg 3 8 (.int .i64 ((yq:Nat):Int)) 38 rfl rfl (Rg.yields_cell _ _ rfl rfl ⟨yb,yo+q,none⟩ rfl (fun W hW=>run_loadInt ((Below.cell (p:=⟨yb,yo+q,none⟩) hW CXq.out.lt).trans CXq.out.cell))) (hS _ _ hI) ?_;go_frame;refine Rg.tm 4 8 (.slice (some ⟨yb,yo,none⟩) n yc) 39 (hS _ _ hI) ?_;go_frame;refine Rg.tm 5 8 (.int .i64 ((b:Nat):Int)) 40 (hS _ _ hI) ?_;go_frame
      refine Rg.tg 6 8 (.pointer (some ⟨yb,yo+b,none⟩)) 41 rfl rfl (Rg.yields_index slPerm _ _ rfl rfl yb (yo) (n) yc (b) rfl rfl hbn) (hS _ _ hI) ?_;go_frame;refine Rg.tg 7 8 (.int .i64 ((yb':Nat):Int)) 42 rfl rfl (Rg.yields_cell _ _ rfl rfl ⟨yb,yo+b,none⟩ rfl (fun W hW=>run_loadInt ((Below.cell (p:=⟨yb,yo+b,none⟩) hW CXb.out.lt).trans CXb.out.cell))) (hS _ _ hI) ?_;go_frame;refine Rg.Any.one (i:=8) (by kernel_rfl) (Rg.Any.run (some 43) rfl rfl rfl (exec_bin (R:=.bool false) .lss _ _ _ rfl rfl rfl (b_lss _ Rg.dF)) (hS _ _ hI) ?_);go_frame;refine Rg.Any.done (by kernel_rfl) ?_ _;clear hS hI
      have HK1:=ι (show ∀ m' (h:m' < (T k).orb.length),m' < m+1→Cm.ap y b≤Cm.ap y (T k).orb[m'] from fun m' h h2=>by
       have a1:=hyq.out;have a2:=hyb.out
       by_cases e:m'=m
       ·subst e
        rw [← hq.out]; omega
       ·have:=HK0.out m' h (by omega)
        omega)
      simp only [Nat.zero_add];go_wp2
      go_roundw
      case rel=>exact ⟨b,m+1,_,rfl,by go_num,HML.out,hbn,X,HT,C0,C1,K,KB,HBK,HK1⟩
      case measure=>simp [intOf]; have:=HML.out; omega
    ·obtain rfl:m=(T k).orb.length:=by omega
     have hmN:¬ ((T k).orb.length:Int)<((T k).orb.length:Int):=by omega
     have HALL:=ι (show ∀ q',trOf T k q'≠none→Cm.ap y b≤Cm.ap y q' from fun q' hq'=>by
      obtain ⟨u,hu⟩:=Option.ne_none_iff_exists'.1 hq';obtain ⟨m',hm',rfl⟩:=List.getElem_of_mem (((HL.out k hkl).orb q').2 ⟨u,hu⟩)
      exact HK0.out m' hm' hm')
     obtain ⟨u,hu⟩:=HBK.out;have HST:=ι (Cm.LI.step HH.out HTR.out GX.out hk1 hkl HLI.out hu HALL.out);have GU:=ι ((HL.out k hkl).tgd b u hu);have GM:=ι (Cm.gd_mul GU.out GY.out)
     have hb64:b<64:=by omega
     clear HALL HK0 HBK
     by_cases hbk:b=k
     ·have hbN:(b:Int)=(k:Int):=by omega
      have HE:=ι (show Ma.mulN u y=y by
       subst hbk;have:=(HL.out b hkl).self;have e:some u=some (Ma.oneN n):=hu.symm.trans this
       injection e with e
       rw [e,Cm.one_mul GY.out])
      clear hbk hu;go_upto_region 11 with (fail);refine Rg.wl ?_;refine Rg.lm 46 (.int .i64 ((b:Nat):Int)) ?_;go_frame;refine Rg.lm 47 (.int .i64 ((k:Nat):Int)) ?_;go_frame;refine Rg.lr 48 (exec_bin (R:=.bool false) .neq _ _ _ rfl rfl rfl (b_neqB _ Rg.dF)) ?_;go_frame;have hg0:=C0.out.cell;go_wp2
      go_roundw
      case rel=>exact ⟨k+1,y,_,by go_num,by omega,by omega,X,HT,C0,C1,K,KB,GY,ι (by have:=HST.out; rwa [HE.out] at this)⟩
      case measure=>simp [intOf]; omega
     ·have hbN:¬ (b:Int)=(k:Int):=by omega
      obtain ⟨ub,uo,uc,hVu,hUP⟩:=HT.out.toS hkl hb64 hu GU.out hn1;have UP:=ι hUP;have CU:=ι (CL.mk (show wr.cell? ⟨L,k*194+2+b,none⟩=some (.slice (some ⟨ub,uo,none⟩) n uc) by rw [getTo HT.out hkl hb64 (by omega),hVu]) HT.out.lt);clear hbk hu hVu hUP;go_upto_region 11 with (fail);refine Rg.wl ?_;refine Rg.lm 46 (.int .i64 ((b:Nat):Int)) ?_;go_frame;refine Rg.lm 47 (.int .i64 ((k:Nat):Int)) ?_;go_frame;refine Rg.lr 48 (exec_bin (R:=.bool true) .neq _ _ _ rfl rfl rfl (b_neqB _ Rg.dT)) ?_;go_frame;go_upto_region 12 with (fail);refine Rg.wl ?_;refine Rg.lm 49 (.pointer (some ⟨tb,0,none⟩)) ?_;go_frame;refine Rg.lr 50 (exec_nil _ rfl rfl) ?_;go_frame;refine Rg.lr 51 (exec_field _ rfl rfl (towF1 _ _)) ?_;go_frame;refine Rg.lr 52 (Rg.exec_load (v:=.slice (some ⟨L,0,none⟩) n n) _ _ rfl ⟨tb,1,none⟩ rfl (Rg.run_loadSl _ _ Tryz.underlying200 C1.out.cell)) ?_;go_frame
      refine Rg.lm 53 (.int .i64 ((k:Nat):Int)) ?_;go_frame;refine Rg.lm 54 (.int .i64 ((b:Nat):Int)) ?_;go_frame;refine Rg.lr 55 (exec_indexZ0 _ _ rfl Tryz.underlying200 szLevel L (n) (n) (k) rfl rfl HKL.out) ?_;go_frame;refine Rg.lr 56 (exec_field _ rfl rfl (lvF2 _ _ _)) ?_;go_frame;refine Rg.lr 57 (exec_indexArr _ _ rfl Tryz.underlying207 szP L (k*194+2) (b) rfl rfl hb64) ?_;go_frame;refine Rg.lr 58 (Rg.exec_load (v:=.slice (some ⟨ub,uo,none⟩) n uc) _ _ rfl ⟨L,k*194+2+b,none⟩ rfl (Rg.run_loadSl _ _ Tryz.underlying51 CU.out.cell)) ?_;go_frame;refine Rg.lm 59 (.slice (some ⟨yb,yo,none⟩) n yc) ?_;go_frame;refine Rg.lk 60 (exec_fn 183 _ _ _ rfl rfl rfl (Vmcl0 _ _)) ?_;refine (chMul_f UP.out X.out GU.out GY.out hn1 hn2).mono ?_;rintro e1 w3 ⟨mv,rfl,hmv,hb⟩;replace KB:=ι (Rg.acc KB.out hb);refine ⟨_,rfl,?_⟩;go_frame;replace HT:=ι (HT.out.up hb);replace C0:=ι (C0.out.up hb)
      replace C1:=ι (C1.out.up hb);replace X:=ι (X.out.up hb);replace UP:=ι (UP.out.up hb);replace CU:=ι (CU.out.up hb);replace K:=ι (K.out.up hb);have MV:=ι hmv;generalize Fup F wr w3=F1 at *;clear hb;refine Rg.la 1 (mv) ?_;go_frame;have hg0:=C0.out.cell;go_wp2
      go_roundw
      case rel=>exact ⟨k+1,_,_,by go_num,by omega,by have:=HKL.out; omega,MV,HT,C0,C1,K,KB,GM,HST⟩
      case measure=>simp [intOf]; have:=HKL.out; omega
  ·obtain rfl:k=n:=by omega
   have hkN:¬ (k:Int)<(k:Int):=by omega
   go_wp2;go_ret;exact ⟨_,_,rfl,K.out,HT.out,y,X.out,HLI.out,GY.out,KB.out⟩
end Go.Proofs.YthehbckogieimaaGreat

namespace Go.Proofs.YthehbckogieimaaGreat
open Go.RowKit
open Go.Proofs
open Go.Shelf
attribute [local go_sem] Oper.semAt_some
def upto {α:Type} (f:Nat→α) (k:Nat):List α:=(List.range k).map f
theorem upto_succ {α:Type} (f:Nat→α) (k:Nat):upto f (k+1)=upto f k++[f k]:=by simp [upto,List.range_succ]
theorem upto_length {α:Type} (f:Nat→α) (k:Nat):(upto f k).length=k:=by simp [upto]
theorem upto_all (zs:List Int):upto (fun j=>zs[j]?.getD 0) zs.length=zs:=by
 apply List.ext_getElem
 ·simp [upto]
 ·intro i h1 h2
  simp [upto,h2]
theorem upto_take (zs:List Int) {k:Nat} (hk:k≤zs.length):upto (fun j=>zs[j]?.getD 0) k=zs.take k:=by
 apply List.ext_getElem
 ·simp [upto,hk]
 ·intro i h1 h2
  have:i<zs.length:=by simp [upto] at h1; omega
  simp [upto,this]
theorem values1_in (F:Fence) (n:Nat) (h7:F.fn 265) (hro:F.round=none) (hn:1≤n) (l Bs n₀ b off len cap:Nat) (zs:List Int) (hreach:len*8≤140737488351232) (hb:b<n₀) (J Jx:List Int→World→Prop)
  (hY:∀ pre x W,J pre W→pre.length<len→YieldAt F (n - 1) Tryz.prog l #[.int .i64 x] W fun e W' =>
   (e=.returned (.bool true)∧J (pre++[x]) W'∧Below n₀ W W')∨(e=.returned (.bool false)∧Jx (pre++[x]) W'))
  (W:World) (hBs:W.cell? ⟨Bs,0,none⟩=some (.slice (some ⟨b,off,none⟩) len cap)) (hc:∀ j,j<len→W.cell? ⟨b,off+j,none⟩=some (.int .i64 (zs[j]?.getD 0))) (h0:J [] W) :
  CallsIn F n Tryz.prog 265 #[.func (.yield l) #[] #[],.pointer (some ⟨Bs,0,none⟩)] W fun e W'=>(∃ v,e=.returned v) ∧
   ((∃ ys,ys=upto (fun j=>zs[j]?.getD 0) len∧J ys W')∨(∃ pre,(∃ k,k≤len∧pre=upto (fun j=>zs[j]?.getD 0) k)∧Jx pre W')):=by
 refine callsIn_of_wp Tryz.func265 rfl h7 ?_ hro;simp only [Tryz.ntmps265,List.size_toArray,List.length_cons,List.length_nil,Nat.reduceAdd,Nat.reduceSub,Array.replicate_succ,Array.replicate_zero,List.push_toArray,List.append_toArray,List.nil_append,List.cons_append]
 gi_wp2
 gi_loopw [7] (fun i wr=>∃ k:Nat,k≤len∧i=.int .i64 k∧J (upto (fun j=>zs[j]?.getD 0) k) wr∧Below n₀ W wr)
  (fun i _=>len - (intOf i).toNat)
 case atStart=>exact ⟨0,Nat.zero_le _,rfl,h0,Below.refl _ _⟩
 case round =>
  obtain ⟨k,hk,rfl,hJs,hnx⟩:=hrel;have hcx:k<len→wr.cell? ⟨b,off+k,none⟩=some (.int .i64 (zs[k]?.getD 0)):=fun h=>(hnx.cell (p:=⟨b,off+k,none⟩) hb).trans (hc k h)
  by_cases hlt:k<len
  ·obtain ⟨fn,tmps,assign,body,hy,hR⟩:=hY _ (zs[k]?.getD 0) wr hJs (by rw [upto_length]; exact hlt)
   have hcx':=hcx hlt
   gi_wp2
   refine hR.mono ?_
   rintro e W3 (⟨rfl,hJ3,hk3⟩ | ⟨rfl,hJx3⟩)
   ·gi_wp2
    go_roundw
    case rel=>exact ⟨k+1,by omega,by simp,by rw [upto_succ]; exact hJ3,hnx.trans hk3⟩
    case measure=>simp [intOf]; omega
   ·gi_wp2
    refine bodyPost_ret (results_none rfl _ _ _) rfl ?_;exact ⟨⟨_,rfl⟩,.inr ⟨_,⟨k+1,by omega,(upto_succ _ _).symm⟩,hJx3⟩⟩
  ·obtain rfl:k=len:=by omega
   gi_wp2
   go_end0
   exact ⟨⟨_,rfl⟩,.inl ⟨_,rfl,hJs⟩⟩
def SInts (n₀:Nat) (W:World) (sv:Value) (zs:List Int):Prop:=∃ b off cap,sv=.slice (some ⟨b,off,none⟩) zs.length cap∧b<n₀∧∀ j,j<zs.length→W.cell? ⟨b,off+j,none⟩=some (.int .i64 (zs[j]?.getD 0))
theorem SInts.below {n₀:Nat} {A B:World} (h:Below n₀ A B) {sv:Value} {zs:List Int}:SInts n₀ A sv zs→SInts n₀ B sv zs
 | ⟨b,off,cap,e,hb,hc⟩=>⟨b,off,cap,e,hb,fun j hj=>(h.cell (p:=⟨b,off+j,none⟩) hb).trans (hc j hj)⟩
theorem values_in (F:Fence) (n:Nat) (h5:F.fn 194) (hro:F.round=none) (a:Option Addr) (len cap:Nat) (w:World) :
  CallsIn F n Tryz.prog 194 #[.slice a len cap] w fun e w'=>e=.returned (.func (.func 265) #[] #[.pointer (some ⟨w.heap.size,0,none⟩)])∧w'=w.alloc (.cells #[.slice a len cap] 36):=by
 refine callsIn_of_wp Tryz.func194 rfl h5 ?_ hro;simp only [Tryz.ntmps194,List.size_toArray,List.length_cons,List.length_nil,Nat.reduceAdd,Nat.reduceSub,Array.replicate_succ,Array.replicate_zero,List.push_toArray,List.append_toArray,List.nil_append,List.cons_append]
 gi_wp2
 go_ret;exact ⟨rfl,rfl⟩
theorem values_stops (F:Fence) (n:Nat) (h7:F.fn 265) (hro:F.round=none) (hn:1≤n) (Bs n₀:Nat) (sv:Value) (zs:List Int) (hreach:zs.length*8≤140737488351232) (w:World) (hBs:Bs<w.heap.size) (hn₀:n₀≤w.heap.size)
  (hc:w.cell? ⟨Bs,0,none⟩=some sv) (hI:SInts n₀ w sv zs) :
  SeqStopsK F n Tryz.prog 265 #[.pointer (some ⟨Bs,0,none⟩)] (fun x:Int=>#[Value.int .i64 x]) (Below n₀) (fun ys=>ys=zs) (fun pre=>pre <+: zs) zs.length w:=fun l J Jx W hW _ _ hY h0=>by
 have hc':=(hW.cell (p:=⟨Bs,0,none⟩) hBs).trans hc;obtain ⟨b,off,cap,rfl,hb,hcs⟩:=hI.below (hW.mono hn₀);refine (values1_in F n h7 hro hn l Bs n₀ b off zs.length cap zs hreach hb J Jx hY W hc' hcs h0).mono ?_
 rintro e W' ⟨he,⟨ys,rfl,hj⟩ | ⟨pre,⟨k,hk,rfl⟩,hj⟩⟩
 ·exact ⟨he,.inl ⟨_,upto_all zs,hj⟩⟩
 ·exact ⟨he,.inr ⟨_,by rw [upto_take zs hk]; exact List.take_prefix _ _,hj⟩⟩
theorem infoI:(Tryz.prog.info? 3).map (fun i=>(i.zero,i.size,i.bytes))=some (some (.int .i64 0),1,8):=by kernel_rfl
theorem appendSeq_in (F:Fence) (n:Nat) (h3:F.fn 309) (h5:F.fn 265) (hro:F.round=none) (hn:3≤n) (Bs:Nat) (sv:Value) (zs:List Int) (hlen:zs.length≤1000000) (w:World) (hBs:Bs<w.heap.size) (hc0:w.cell? ⟨Bs,0,none⟩=some sv) (hI:SInts w.heap.size w sv zs) :
  CallsIn F n Tryz.prog 309 #[.slice none 0 0,.func (.func 265) #[] #[.pointer (some ⟨Bs,0,none⟩)]] w fun e W'=>∃ v,e=.returned v∧W'.ownsRow w.heap.size 3 1 v zs.length (zs.map (Value.int .i64))∧Below w.heap.size w W':=by
 have h1:1≤n:=by omega
 obtain ⟨i0,hi,hz0,hz1,hz2⟩:=info_parts infoI;refine callsIn_of_wp_marks Tryz.func309 rfl h3 ?_ hro;simp only [Tryz.ntmps309,List.size_toArray,List.length_cons,List.length_nil,Nat.reduceAdd,Nat.reduceSub,Array.replicate_succ,Array.replicate_zero,List.push_toArray,List.append_toArray,List.nil_append,List.cons_append]
 gi_wp2
 have bO:=Boxed.new w 36 (.slice none 0 0);have hB0:Below w.heap.size w (w.alloc (.cells #[.slice none 0 0] 36)):=(Below.refl _ w).alloc (Nat.le_refl _) _
 refine wpIn_rangeFunc_ownG hro h1 (gf:=265) (lb:=#[.pointer (some ⟨Bs,0,none⟩)]) rfl h5 (enters_of Tryz.func265 (by kernel_rfl) rfl)
  (values_stops F (n - 1) h5 hro (by omega) Bs w.heap.size sv zs (by omega) _ (by simp; omega) (by simp) ((hB0.cell (p:=⟨Bs,0,none⟩) hBs).trans hc0) (hI.below hB0)) belowK_t (belowK_b (by simp)) (Below.refl _ _) (fun _=>rfl)
  (fun pre W=>(∃ v,Boxed W w.heap.size 36 v∧W.ownsRow w.heap.size 3 1 v pre.length (pre.map (Value.int .i64))∧(v=.slice none 0 0↔pre=[]))∧Below w.heap.size w W)
  (fun _ _ _=>False)
  (OwnFrom.and (Own.from (holdsRow_own w.heap.size w.heap.size 36 3 1 (fun pre=>pre.length) (fun pre=>pre.map (Value.int .i64)) (fun pre v=>v=.slice none 0 0↔pre=[])) _) (ownFrom_below (Nat.le_refl _) (by simp)))
  (fun _ _ _ _ _ hs _ _=>hs)
  ⟨⟨_,bO,World.ownsRow_nil _ _ _ _,by simp⟩,hB0⟩
  (fun x=>{ tmps:=#[.slice none 0 0,.func (.func 265) #[] #[.pointer (some ⟨Bs,0,none⟩)],.pointer (some ⟨w.heap.size,0,none⟩),undef,.slice none 0 0,.int .i64 x,.func (.func 265) #[] #[.pointer (some ⟨Bs,0,none⟩)],.int .i64 x,undef,undef,undef,undef,undef],defers:=[] }) ?assign ?body ?done ?stop
 case assign =>
  intro l x W K hK
  gi_wp2
  exact hK
 case body =>
  rintro l pre x W ⟨⟨v,hv,hrow,hnil⟩,hB⟩ hlt;have hc:=hv.cell
  gi_wp2_with (gi_at_builtin; refine wpListIn_append_own _ rfl _ _ 36 rfl w.heap.size 3 i0 (.int .i64 0) 1 8 Tryz.underlying36 hi hz0 hz1 hz2 rfl (by decide) _ _ _ rfl (hrow.alloc _) ⟨W.heap.size,0,none⟩ 1 1 [.int .i64 x] rfl rfl (cell_one_new _ _ _) (by simp [Value.oneCell']) (by unfold maxLen; omega) (by omega) (by have:=hB.size; simp; omega) ?_; intro v' w1 hown' hgrow _; obtain ⟨g',cap',rfl⟩:=ownsRow_succ hown'; obtain ⟨hv1,hv2,hr2,hk2,hb2⟩:=hv.appended (by decide) hrow hB.size (Nat.le_refl _) hown' hgrow; have hc1:=hv1.cell; have hf1:=hv1.frozen)
  exact ⟨hk2.from _,hb2,⟨_,hv2,by simpa using hr2,by simp⟩,hB.trans hb2⟩
 case done =>
  rintro D ys W hD rfl ⟨⟨v,hv,hrow,hnil⟩,hB⟩ hK;have hc:=hv.cell
  gi_wp2
  refine ⟨by simp,.inl ⟨_,_,rfl,run_takeDeferred hK,?_⟩⟩;exact ⟨_,results_tmp rfl _ _ _,v,rfl,ownsRow_putObj hrow _ hK rfl,hB.trans (belowK_b (w:=w) (Nat.le_refl _) W D _ _ (by simp at hD; omega) hK rfl rfl)⟩
 case stop =>
  rintro D c pre W _ _ h _;exact h.elim
end Go.Proofs.YthehbckogieimaaGreat

namespace Go.Proofs.YthehbckogieimaaGreat
open Go.RowKit
open Go.Proofs
open Go.Proofs.Ob
attribute [local irreducible] Go.Calls
theorem exec_makeSlice {o:Oper} {a:Act} {w w':World} {v:Value} (t:TypeId) (x y:Operand) (ho:o.op=.makeSlice t x y) (n m:Value) (hx:a.eval x=n) (hy:a.eval y=m) (hr:(Instr.makeSlice t n m).run Tryz.prog w=.ok v w'):(execOp a.eval o).run Tryz.prog w=.ok (.value v) w':=by
 unfold execOp;simp only [ho,hx,hy,Sem.run_bind,Sem.run_pure,hr,Result.andThen_ok]

theorem Own_any (v:Value) (l:List Int) (w:World) (h:Rg.Ints w v l) (hl:l.length≤1000000) :
  Calls Tryz.prog 70 #[v] w fun e w'=>∃ v',e=.returned v'∧w'.ownsRow w.heap.size 3 1 v' l.length (l.map (Value.int .i64))∧Below w.heap.size w w':=by
 obtain ⟨la,lc,rfl,_⟩:=h.shape;have HI:=ι h;have K:=ι (Below.refl w.heap.size w);clear h
 go_enter Tryz.func70,Tryz.ntmps70
 go_upto_region 1 with (fail);refine Rg.wl ?_;have hnew:=Own0.new (B:=w.heap.size) w (Nat.le_refl _);refine Rg.lr 3 (Rg.exec_build0 slInts rfl w) ?_;go_frame;have hb:=(Below.refl w.heap.size w).alloc (Nat.le_refl _) (.cells #[] 3);generalize w.alloc (.cells #[] 3)=w1 at *;replace HI:=ι (HI.out.below hb);replace K:=ι (Rg.acc K.out hb);clear hb;have FO:=ι hnew;refine Rg.lm 4 (.slice la l.length lc) ?_;go_frame;obtain ⟨v5,X5,r1,r2,r3⟩:=Rg.appL_run (P:=Tryz.prog) slInts 36 FO.out.1 K.out.size HI.out ints_cells (by rw [List.length_map]; omega);refine Rg.lr 5 (Rg.exec_append _ _ _ rfl rfl rfl r1) ?_;go_frame;refine Rg.la 2 (v5) ?_;go_frame;rw [List.length_map,Nat.zero_add,List.nil_append] at r2;have R2:=ι r2;have K5:=ι (K.out.grown r3 K.out.size (fun j hj=>(FO.out.1.lt j hj).1));clear r1 r2 r3 FO;go_wp2;go_ret;exact ⟨_,rfl,R2.out,K5.out⟩
theorem RowsF.grown {B b:Nat} {w W:World} {v:Value} {ll:List (List Int)} (h:RowsF B w v ll) (hg:w.grownBy W (some b)) (hb:b<B):RowsF B W v ll :=
 h.keep hg.size fun b2 o h1 h2=>World.cell?_of_block (a:=⟨b2,o,none⟩) (hg.block b2 h2 (fun e=>by simp at e; omega))
end Go.Proofs.YthehbckogieimaaGreat

namespace Go.Proofs.YthehbckogieimaaGreat
open Go.RowKit
open Go.Proofs
attribute [local irreducible] Go.Calls
theorem infoChain:(Tryz.prog.info? 54).map (fun i=>(i.zero,i.size,i.bytes))=some (some (.agg #[.int .i64 0,.slice none 0 0,.slice none 0 0]),3,56):=by kernel_rfl
structure Tri (w:World) (b:Nat) (x y z:Value):Prop where
 c0:w.cell? ⟨b,0,none⟩=some x
 c1:w.cell? ⟨b,1,none⟩=some y
 c2:w.cell? ⟨b,2,none⟩=some z
 f0:w.frozen? ⟨b,0,none⟩=false
 f1:w.frozen? ⟨b,1,none⟩=false
 f2:w.frozen? ⟨b,2,none⟩=false
 lt:b<w.heap.size
theorem Tri.upto {B:Nat} {w w':World} {b:Nat} {x y z:Value} (h:Tri w b x y z) (hb:Below B w w') (hB:b<B):Tri w' b x y z :=
 ⟨(hb.cell (p:=⟨b,0,none⟩) hB).trans h.c0,(hb.cell (p:=⟨b,1,none⟩) hB).trans h.c1,(hb.cell (p:=⟨b,2,none⟩) hB).trans h.c2,(hb.frozen (p:=⟨b,0,none⟩) hB).trans h.f0,(hb.frozen (p:=⟨b,1,none⟩) hB).trans h.f1,(hb.frozen (p:=⟨b,2,none⟩) hB).trans h.f2,Nat.lt_of_lt_of_le h.lt hb.size⟩
theorem Tri.below {w w':World} {b:Nat} {x y z:Value} (h:Tri w b x y z) (hb:Below w.heap.size w w'):Tri w' b x y z:=h.upto hb h.lt
theorem Tri.kp {M:Nat→Prop} {w w':World} {b:Nat} {x y z:Value} (h:Tri w b x y z) (hk:Rg.Kp M w w') (hM:¬ M b):Tri w' b x y z:=by
 have e:=hk.block b h.lt hM;exact ⟨(World.cell?_of_block (a:=⟨b,0,none⟩) e).trans h.c0,(World.cell?_of_block (a:=⟨b,1,none⟩) e).trans h.c1,(World.cell?_of_block (a:=⟨b,2,none⟩) e).trans h.c2,(World.frozen?_of_block (a:=⟨b,0,none⟩) e).trans h.f0,(World.frozen?_of_block (a:=⟨b,1,none⟩) e).trans h.f1,(World.frozen?_of_block (a:=⟨b,2,none⟩) e).trans h.f2,Nat.lt_of_lt_of_le h.lt hk.size⟩
theorem Tri.new (w:World) (x y z:Value):Tri (w.alloc (.cells #[x,y,z] 54)) w.heap.size x y z :=
 ⟨by rw [Rg.cellNew]; rfl,by rw [Rg.cellNew]; rfl,by rw [Rg.cellNew]; rfl,frozenNewN _ _ _ 0 _,frozenNewN _ _ _ 0 _,frozenNewN _ _ _ 0 _,by simp⟩
theorem run_storeC {w:World} {b:Nat} {u1 u2 u3:Value} (d:Int) (a:Option Addr) (n c:Nat) (a':Option Addr) (n' c':Nat) (h:Tri w b u1 u2 u3) :
  (storeVar 54 ⟨b,0,none⟩ (.agg #[.int .i64 d,.slice a n c,.slice a' n' c'])).run Tryz.prog w=.ok () (((w.setCell ⟨b,0,none⟩ (.int .i64 d)).setCell ⟨b,1,none⟩ (.slice a n c)).setCell ⟨b,2,none⟩ (.slice a' n' c')):=by
 obtain ⟨i0,hi,hz0,hz1,hz2⟩:=info_parts infoChain
 have g2:(w.setCell ⟨b,0,none⟩ (.int .i64 d)).cell? ⟨b,1,none⟩=some u2:=by
  rw [World.cell?_setCell_other (h:=by intro e; injection e with e1 e2; omega) ..]
  exact h.c1
 have gf:(w.setCell ⟨b,0,none⟩ (.int .i64 d)).frozen? ⟨b,1,none⟩=false:=by rw [World.frozen?_setCell]; exact h.f1
 have g3:((w.setCell ⟨b,0,none⟩ (.int .i64 d)).setCell ⟨b,1,none⟩ (.slice a n c)).cell? ⟨b,2,none⟩=some u3:=by
  rw [World.cell?_setCell_other (h:=by intro e; injection e with e1 e2; omega) ..,World.cell?_setCell_other (h:=by intro e; injection e with e1 e2; omega) ..]
  exact h.c2
 have gf3:((w.setCell ⟨b,0,none⟩ (.int .i64 d)).setCell ⟨b,1,none⟩ (.slice a n c)).frozen? ⟨b,2,none⟩=false:=by rw [World.frozen?_setCell,World.frozen?_setCell]; exact h.f2
 have ha0:(⟨b,0,none⟩:Addr).add 0=⟨b,0,none⟩:=by simp [Addr.add]
 have ha1:(⟨b,0,none⟩:Addr).add 1=⟨b,1,none⟩:=by simp [Addr.add]
 have ha2:(⟨b,0,none⟩:Addr).add 2=⟨b,2,none⟩:=by simp [Addr.add]
 simp [storeVar,sizeOf,typeInfo,hi,hz1,Value.cells,storeCells,store,ha0,ha1,ha2];simp [Sem.run,h.c0,h.f0,g2,gf,g3,gf3]
theorem Tri.set {w:World} {b:Nat} {u1 u2 u3:Value} (h:Tri w b u1 u2 u3) (x y z:Value):Tri (((w.setCell ⟨b,0,none⟩ x).setCell ⟨b,1,none⟩ y).setCell ⟨b,2,none⟩ z) b x y z:=by
 have s1:(w.setCell ⟨b,0,none⟩ x).cell? ⟨b,0,none⟩=some x:=World.cell?_setCell_same (h:=h.c0) ..
 have s2:(w.setCell ⟨b,0,none⟩ x).cell? ⟨b,1,none⟩=some u2:=by
  rw [World.cell?_setCell_other (h:=by intro e; injection e with e1 e2; omega) ..]; exact h.c1
 have s3:((w.setCell ⟨b,0,none⟩ x).setCell ⟨b,1,none⟩ y).cell? ⟨b,2,none⟩=some u3:=by
  rw [World.cell?_setCell_other (h:=by intro e; injection e with e1 e2; omega) ..,World.cell?_setCell_other (h:=by intro e; injection e with e1 e2; omega) ..]; exact h.c2
 refine ⟨?_,?_,World.cell?_setCell_same (h:=s3) ..,?_,?_,?_,by simpa using h.lt⟩
 ·rw [World.cell?_setCell_other (h:=by intro e; injection e with e1 e2; omega) ..,World.cell?_setCell_other (h:=by intro e; injection e with e1 e2; omega) ..]; exact s1
 ·rw [World.cell?_setCell_other (h:=by intro e; injection e with e1 e2; omega) ..]; exact World.cell?_setCell_same (h:=s2) ..
 ·rw [World.frozen?_setCell,World.frozen?_setCell,World.frozen?_setCell]; exact h.f0
 ·rw [World.frozen?_setCell,World.frozen?_setCell,World.frozen?_setCell]; exact h.f1
 ·rw [World.frozen?_setCell,World.frozen?_setCell,World.frozen?_setCell]; exact h.f2
theorem Tri.set12 {w:World} {b:Nat} {u1 u2 u3:Value} (h:Tri w b u1 u2 u3) (y z:Value):Tri ((w.setCell ⟨b,1,none⟩ y).setCell ⟨b,2,none⟩ z) b u1 y z:=by
 have s3:(w.setCell ⟨b,1,none⟩ y).cell? ⟨b,2,none⟩=some u3:=by
  rw [World.cell?_setCell_other (h:=by intro e; injection e with e1 e2; omega) ..]; exact h.c2
 refine ⟨?_,?_,World.cell?_setCell_same (h:=s3) ..,?_,?_,?_,by simpa using h.lt⟩
 ·rw [World.cell?_setCell_other (h:=by intro e; injection e with e1 e2; omega) ..,World.cell?_setCell_other (h:=by intro e; injection e with e1 e2; omega) ..]; exact h.c0
 ·rw [World.cell?_setCell_other (h:=by intro e; injection e with e1 e2; omega) ..]; exact World.cell?_setCell_same (h:=h.c1) ..
 ·rw [World.frozen?_setCell,World.frozen?_setCell]; exact h.f0
 ·rw [World.frozen?_setCell,World.frozen?_setCell]; exact h.f1
 ·rw [World.frozen?_setCell,World.frozen?_setCell]; exact h.f2
theorem run_loadC {w:World} {b:Nat} {x y z:Value} (h:Tri w b x y z):(loadVar 54 ⟨b,0,none⟩).run Tryz.prog w=.ok (.agg #[x,y,z]) w:=by
 obtain ⟨i0,hi,hz0,hz1,hz2⟩:=info_parts infoChain
 have ha0:(⟨b,0,none⟩:Addr).add 0=⟨b,0,none⟩:=by simp [Addr.add]
 have ha1:(⟨b,0,none⟩:Addr).add 1=⟨b,1,none⟩:=by simp [Addr.add]
 have ha2:(⟨b,0,none⟩:Addr).add 2=⟨b,2,none⟩:=by simp [Addr.add]
 have hg:(isAgg 54).run Tryz.prog w=.ok true w:=by kernel_rfl
 simp [loadVar,hg,sizeOf,typeInfo,hi,hz1,loadCells,loadCellsFrom,load,ha0,ha1,ha2];simp [Sem.run,h.c0,h.c1,h.c2]
theorem results_cellC {fn:Func} {p:Go.Tmp} (h:fn.results=#[.cell p 54]) (tmps:Array Value) {w:World} {b:Nat} {x y z:Value} (hp:tmps.getD p undef=.pointer (some ⟨b,0,none⟩)) (h1:Tri w b x y z) :
  (results fn tmps).run Tryz.prog w=.ok (.agg #[x,y,z]) w:=by
 have hp':tmps[p]?.getD undef=.pointer (some ⟨b,0,none⟩):=by simpa using hp
 simp [results,h,hp',asAddr,run_loadC h1]
theorem results_cellC2 {fn:Func} {p u:Go.Tmp} (h:fn.results=#[.cell p 54,.tmp u]) (tmps:Array Value) {w:World} {b:Nat} {x y z v:Value} (hp:tmps.getD p undef=.pointer (some ⟨b,0,none⟩)) (hu:tmps.getD u undef=v) (h1:Tri w b x y z) :
  (results fn tmps).run Tryz.prog w=.ok (.tuple #[.agg #[x,y,z],v]) w:=by
 rw [results_cell_tmp h,hp,hu];simp [asAddr,run_loadC h1,Result.andThen]
theorem exec_allocC {o:Oper} {a:Act} {w:World} (ho:o.op=.alloc 54):(execOp a.eval o).run Tryz.prog w=.ok (.value (.pointer (some ⟨w.heap.size,0,none⟩))) (w.alloc (.cells #[.int .i64 0,.slice none 0 0,.slice none 0 0] 54)):=by
 obtain ⟨i0,hi,hz0,hz1,hz2⟩:=info_parts infoChain;unfold execOp;simp [ho,Instr.alloc,typeInfo,zeroValue,hi,hz0,newVar,Value.cells,Result.andThen];rfl
theorem exec_buildC1 {o:Oper} {a:Act} {w:World} {d:Int} (x:Operand) (ho:o.op=.build 54 #[(0,x)]) (hx:a.eval x=.int .i64 d) :
  (execOp a.eval o).run Tryz.prog w=.ok (.value (.agg #[.int .i64 d,.slice none 0 0,.slice none 0 0])) w:=by
 unfold execOp;simp only [ho,Sem.run_bind,Sem.run_pure];simp only [List.map_toArray,List.map_cons,List.map_nil,hx]
 have h:(Instr.build 54 #[(0,.int .i64 d)]).run Tryz.prog w=.ok (.agg #[.int .i64 d,.slice none 0 0,.slice none 0 0]) w:=by kernel_rfl
 first | (rw [h]; rfl) | (erw [h]; rfl)
theorem exec_buildC0 {o:Oper} {a:Act} {w:World} (ho:o.op=.build 54 #[]) :
  (execOp a.eval o).run Tryz.prog w=.ok (.value (.agg #[.int .i64 0,.slice none 0 0,.slice none 0 0])) w:=by
 unfold execOp;simp only [ho,Sem.run_bind,Sem.run_pure]
 have h:(Instr.build 54 #[]).run Tryz.prog w=.ok (.agg #[.int .i64 0,.slice none 0 0,.slice none 0 0]) w:=by kernel_rfl
 first | (simp [h,Result.andThen]) | (rw [h]; rfl) | (erw [h]; rfl)
theorem chF0 (b:Nat) (w:World):(Instr.fieldAt 54 (.pointer (some ⟨b,0,none⟩)) 0).run Tryz.prog w=.ok (.pointer (some ⟨b,0,none⟩)) w:=by kernel_rfl
theorem chF1 (b:Nat) (w:World):(Instr.fieldAt 54 (.pointer (some ⟨b,0,none⟩)) 1).run Tryz.prog w=.ok (.pointer (some ⟨b,1,none⟩)) w:=by kernel_rfl
theorem chF2 (b:Nat) (w:World):(Instr.fieldAt 54 (.pointer (some ⟨b,0,none⟩)) 2).run Tryz.prog w=.ok (.pointer (some ⟨b,2,none⟩)) w:=by kernel_rfl
theorem infoIntss:(Tryz.prog.info? 27).map (fun i=>(i.zero,i.size,i.bytes))=some (some (.slice none 0 0),1,24):=by kernel_rfl
theorem infoPermss:(Tryz.prog.info? 52).map (fun i=>(i.zero,i.size,i.bytes))=some (some (.slice none 0 0),1,24):=by kernel_rfl
theorem slPermss:Rg.SlT Tryz.prog 52 22 (.slice none 0 0) 24:=⟨Tryz.underlying52,infoPermsV,rfl,by decide⟩
theorem run_build1PP (X:World) (u:Value) (hs:∃ a n c,u=.slice a n c):(Instr.buildSlice 52 1 #[(0,u)]).run Tryz.prog X=.ok (.slice (some ⟨X.heap.size,0,none⟩) 1 1) (X.alloc (.cells #[u] 22)):=by
 obtain ⟨i0,hi,hz0,hz1,hz2⟩:=info_parts infoPermsV;obtain ⟨a,n,c,rfl⟩:=hs;refine run_buildSlice X 52 22 1 _ _ i0 _ Tryz.underlying52 hi hz0 (by rw [hz1]; decide) (by rw [hz1]; decide) ?_;generalize (fun x=>((Value.slice none 0 0).cells)[x % (Value.slice none 0 0).cells.size]!)=f;rw [hz1];have h1:Array.range (1*1)=#[0]:=rfl;simp [Instr.fill,Value.cells,h1]
end Go.Proofs.YthehbckogieimaaGreat

namespace Go.Proofs.YthehbckogieimaaGreat
open Go.RowKit
open Go.Proofs
theorem FRows.kp {F M:Nat→Prop} {w w':World} {v:Value} {ll:List (List Int)} (h:Rg.FRows F w v ll) (hk:Rg.Kp M w w') (hF:∀ k,F k→¬ M k):Rg.FRows F w' v ll:=by
 obtain ⟨us,h1,h2⟩:=h;exact ⟨us,h1.kp hk hF,h2.kp hk hF⟩
theorem FRows.mono {F F':Nat→Prop} {w:World} {v:Value} {ll:List (List Int)} (h:Rg.FRows F w v ll) (hF:∀ k,F k→F' k):Rg.FRows F' w v ll:=by
 obtain ⟨us,h1,h2⟩:=h;exact ⟨us,h1.mono hF,h2.mono hF⟩
theorem FRows.rows {F:Nat→Prop} {w:World} {v:Value} {ll:List (List Int)} (h:Rg.FRows F w v ll):Rg.Rows w v ll:=by
 obtain ⟨us,h1,h2⟩:=h;exact ⟨us,h1.vals,h2.1,fun i a b=>(h2.2 i a b).ints⟩
theorem FElts2.kp {F M:Nat→Prop} {w w':World} {us:List Value} {ll:List (List (List Int))} (h:Rg.FElts2 F w us ll) (hk:Rg.Kp M w w') (hF:∀ k,F k→¬ M k):Rg.FElts2 F w' us ll:=⟨h.1,fun i a b=>FRows.kp (h.2 i a b) hk hF⟩
theorem FElts2.mono {F F':Nat→Prop} {w:World} {us:List Value} {ll:List (List (List Int))} (h:Rg.FElts2 F w us ll) (hF:∀ k,F k→F' k):Rg.FElts2 F' w us ll:=⟨h.1,fun i a b=>FRows.mono (h.2 i a b) hF⟩
theorem FElts.snoc {F:Nat→Prop} {w:World} {us:List Value} {ll:List (List Int)} {u:Value} {l:List Int} (h:Rg.FElts F w us ll) (hu:Rg.FI F w u l):Rg.FElts F w (us++[u]) (ll++[l]):=by
 refine ⟨by simp [h.1],fun i a b=>?_⟩
 by_cases e:i<us.length
 ·have e2:i<ll.length:=by rw [← h.1]; exact e
  rw [List.getElem_append_left e,List.getElem_append_left e2];exact h.2 i e e2
 ·have e1:i=us.length:=by simp at a; omega
  subst e1;have hl:=h.1;simp [hl];exact hu
theorem FElts2.snoc {F:Nat→Prop} {w:World} {us:List Value} {ll:List (List (List Int))} {u:Value} {l:List (List Int)} (h:Rg.FElts2 F w us ll) (hu:Rg.FRows F w u l):Rg.FElts2 F w (us++[u]) (ll++[l]):=by
 refine ⟨by simp [h.1],fun i a b=>?_⟩
 by_cases e:i<us.length
 ·have e2:i<ll.length:=by rw [← h.1]; exact e
  rw [List.getElem_append_left e,List.getElem_append_left e2];exact h.2 i e e2
 ·have e1:i=us.length:=by simp at a; omega
  subst e1;have hl:=h.1;simp [hl];exact hu
def GS2 (B:Nat) (W:World) (tc:Nat) (ov rv:Value) (k:Nat):Prop:=B≤k∧k<W.heap.size∧ov.ownBlock≠some k∧rv.ownBlock≠some k∧k≠tc
structure ChR (B:Nat) (W:World) (tc:Nat) (c0 c1 c2 ov rv:Value) (O:List (List Int)) (R:List (List (List Int))):Prop where
 tri:Tri W tc c0 c1 c2
 low:B≤tc
 own:∃ us vs,W.ownsRow B 36 1 ov O.length us∧W.ownsRow B 22 1 rv R.length vs∧Rg.FElts (GS2 B W tc ov rv) W us O∧Rg.FElts2 (GS2 B W tc ov rv) W vs R
 apart:∀ k,ov.ownBlock=some k→rv.ownBlock≠some k
 ot:ov.ownBlock≠some tc
 rt:rv.ownBlock≠some tc
theorem GS2.up {B:Nat} {W W':World} {tc:Nat} {ov rv:Value} {k:Nat} (h:GS2 B W tc ov rv k) (hs:W.heap.size≤W'.heap.size):GS2 B W' tc ov rv k:=⟨h.1,Nat.lt_of_lt_of_le h.2.1 hs,h.2.2⟩
theorem ChR.below {B:Nat} {W W':World} {tc:Nat} {c0 c1 c2 ov rv:Value} {O:List (List Int)} {R:List (List (List Int))} (h:ChR B W tc c0 c1 c2 ov rv O R) (hb:Below W.heap.size W W'):ChR B W' tc c0 c1 c2 ov rv O R:=by
 obtain ⟨us,vs,h1,h2,h3,h4⟩:=h.own;have hk:Rg.Kp (fun _=>False) W W':=Rg.Kp.of_below hb;exact ⟨h.tri.below hb,h.low,⟨us,vs,Rg.row_below h1 hb,Rg.row_below h2 hb,(h3.kp hk (fun _ _=>id)).mono (fun k hk=>hk.up hb.size),FElts2.mono (FElts2.kp h4 hk (fun _ _=>id)) (fun k hk=>hk.up hb.size)⟩,h.apart,h.ot,h.rt⟩
theorem ChR.start {B:Nat} {W:World} {tc:Nat} {c0 c1 c2:Value} (ht:Tri W tc c0 c1 c2) (hl:B≤tc):ChR B W tc c0 c1 c2 (.slice none 0 0) (.slice none 0 0) [] [] :=
 ⟨ht,hl,⟨[],[],World.ownsRow_nil _ _ _ _,World.ownsRow_nil _ _ _ _,Rg.FElts.nil _ _,⟨rfl,fun i h=>by simp at h⟩⟩,fun k h=>by simp [Value.ownBlock] at h,by simp [Value.ownBlock],by simp [Value.ownBlock]⟩
theorem ChR.lts {B:Nat} {W:World} {tc:Nat} {c0 c1 c2 ov rv:Value} {O:List (List Int)} {R:List (List (List Int))} (h:ChR B W tc c0 c1 c2 ov rv O R):(∀ k,ov.ownBlock=some k→B≤k∧k<W.heap.size)∧(∀ k,rv.ownBlock=some k→B≤k∧k<W.heap.size):=by
 obtain ⟨us,vs,h1,h2,_⟩:=h.own;exact ⟨fun k e=>h1.lt k e,fun k e=>h2.lt k e⟩
theorem ChR.pushO {B:Nat} {W:World} {tc:Nat} {c0 c1 c2 ov rv:Value} {O:List (List Int)} {R:List (List (List Int))} (h:ChR B W tc c0 c1 c2 ov rv O R) (hB:B≤W.heap.size) {x:Value} {l:List Int} (hx:Rg.FI (GS2 B W tc ov rv) W x l) (hs:x.oneCell'=true) (hO:O.length<1000000) {p:Nat} (hp:W.cell? ⟨p,0,none⟩=some x) (ty:TypeId) :
  ∃ a c X,(Builtin.append_ #[27,27] ty #[ov,.slice (some ⟨p,0,none⟩) 1 1]).run Tryz.prog W=.ok (.slice a (O.length+1) c) X∧ChR B X tc c0 c1 c2 (.slice a (O.length+1) c) rv (O++[l]) R∧W.grownBy X ov.ownBlock ∧
   (∀ k,GS2 B W tc ov rv k→GS2 B X tc (.slice a (O.length+1) c) rv k):=by
 obtain ⟨us,vs,h1,h2,h3,h4⟩:=h.own;obtain ⟨v',X,r1,r2,r3,r4,a,c,rfl⟩:=app_run (P:=Tryz.prog) slIntss ty h1 hB p 1 hp hs hO;have hk:Rg.Kp (fun k=>ov.ownBlock=some k) W X:=Rg.Kp.of_grown r3 fun _ e=>e
 have hm:∀ k,GS2 B W tc ov rv k→GS2 B X tc (.slice a (O.length+1) c) rv k:=fun k g=>by
  refine ⟨g.1,Nat.lt_of_lt_of_le g.2.1 hk.size,fun e=>?_,g.2.2.2⟩
  rcases r4 with r4 | r4
  ·rw [r4] at e; exact g.2.2.1 e
  ·rw [r4] at e; injection e with e; have:=g.2.1; omega
 have hg:∀ k,GS2 B W tc ov rv k→¬ ov.ownBlock=some k:=fun k g=>g.2.2.1;refine ⟨a,c,X,r1,⟨h.tri.kp hk h.ot,h.low,⟨us++[x],vs,by rw [List.length_append]; exact r2,rowKp h2 hk (fun k e e2=>h.apart k e e2),(FElts.snoc (h3.kp hk hg) (hx.kp hk hg)).mono hm,FElts2.mono (FElts2.kp h4 hk hg) hm⟩,fun k e e2=>?_,fun e=>?_,h.rt⟩,r3,hm⟩
 ·rcases r4 with r4 | r4
  ·rw [r4] at e; exact h.apart k e e2
  ·rw [r4] at e; injection e with e; have:=(h.lts.2 k e2).2; omega
 ·rcases r4 with r4 | r4
  ·rw [r4] at e; exact h.ot e
  ·rw [r4] at e; injection e with e; have:=h.tri.lt; omega
theorem ChR.pushR {B:Nat} {W:World} {tc:Nat} {c0 c1 c2 ov rv:Value} {O:List (List Int)} {R:List (List (List Int))} (h:ChR B W tc c0 c1 c2 ov rv O R) (hB:B≤W.heap.size) {x:Value} {l:List (List Int)} (hx:Rg.FRows (GS2 B W tc ov rv) W x l) (hs:x.oneCell'=true) (hR:R.length<1000000) {p:Nat} (hp:W.cell? ⟨p,0,none⟩=some x) (ty:TypeId) :
  ∃ a c X,(Builtin.append_ #[52,52] ty #[rv,.slice (some ⟨p,0,none⟩) 1 1]).run Tryz.prog W=.ok (.slice a (R.length+1) c) X∧ChR B X tc c0 c1 c2 ov (.slice a (R.length+1) c) O (R++[l])∧W.grownBy X rv.ownBlock:=by
 obtain ⟨us,vs,h1,h2,h3,h4⟩:=h.own;obtain ⟨v',X,r1,r2,r3,r4,a,c,rfl⟩:=app_run (P:=Tryz.prog) slPermss ty h2 hB p 1 hp hs hR;have hk:Rg.Kp (fun k=>rv.ownBlock=some k) W X:=Rg.Kp.of_grown r3 fun _ e=>e
 have hm:∀ k,GS2 B W tc ov rv k→GS2 B X tc ov (.slice a (R.length+1) c) k:=fun k g=>by
  refine ⟨g.1,Nat.lt_of_lt_of_le g.2.1 hk.size,g.2.2.1,fun e=>?_,g.2.2.2.2⟩
  rcases r4 with r4 | r4
  ·rw [r4] at e; exact g.2.2.2.1 e
  ·rw [r4] at e; injection e with e; have:=g.2.1; omega
 have hg:∀ k,GS2 B W tc ov rv k→¬ rv.ownBlock=some k:=fun k g=>g.2.2.2.1;refine ⟨a,c,X,r1,⟨h.tri.kp hk h.rt,h.low,⟨us,vs++[x],rowKp h1 hk (fun k e e2=>h.apart k e2 e),by rw [List.length_append]; exact r2,(h3.kp hk hg).mono hm,FElts2.mono (FElts2.snoc (FElts2.kp h4 hk hg) (FRows.kp hx hk hg)) hm⟩,fun k e e2=>?_,h.ot,fun e=>?_⟩,r3⟩
 ·rcases r4 with r4 | r4
  ·rw [r4] at e2; exact h.apart k e e2
  ·rw [r4] at e2; injection e2 with e2; have:=(h.lts.1 k e).2; omega
 ·rcases r4 with r4 | r4
  ·rw [r4] at e; exact h.rt e
  ·rw [r4] at e; injection e with e; have:=h.tri.lt; omega
theorem ChR.store {B:Nat} {W:World} {tc:Nat} {c0 c1 c2 ov rv:Value} {O:List (List Int)} {R:List (List (List Int))} (h:ChR B W tc c0 c1 c2 ov rv O R) (y z:Value) :
  ChR B ((W.setCell ⟨tc,1,none⟩ y).setCell ⟨tc,2,none⟩ z) tc c0 y z ov rv O R:=by
 obtain ⟨us,vs,h1,h2,h3,h4⟩:=h.own;have hk:Rg.Kp (fun k=>k=tc) W ((W.setCell ⟨tc,1,none⟩ y).setCell ⟨tc,2,none⟩ z):=Rg.Kp.trans (Rg.Kp.of_setCell (M:=fun k=>k=tc) rfl) (Rg.Kp.of_setCell (M:=fun k=>k=tc) rfl) (fun _ _ e=>e);have hg:∀ k,GS2 B W tc ov rv k→¬ k=tc:=fun k g=>g.2.2.2.2;have hm:∀ k,GS2 B W tc ov rv k→GS2 B ((W.setCell ⟨tc,1,none⟩ y).setCell ⟨tc,2,none⟩ z) tc ov rv k:=fun k g=>g.up hk.size;exact ⟨h.tri.set12 y z,h.low,⟨us,vs,rowKp h1 hk (fun k e e2=>h.ot (e▸e2)),rowKp h2 hk (fun k e e2=>h.rt (e▸e2)),(h3.kp hk hg).mono hm,FElts2.mono (FElts2.kp h4 hk hg) hm⟩,h.apart,h.ot,h.rt⟩
def Rows2 (w:World) (v:Value) (lll:List (List (List Int))):Prop:=∃ us,Rg.Vals w v us∧us.length=lll.length∧∀ i (h:i<us.length) (h2:i<lll.length),Rg.Rows w us[i] lll[i]
theorem Rows2.below {w w':World} {v:Value} {lll:List (List (List Int))} (h:Rows2 w v lll) (hb:Below w.heap.size w w'):Rows2 w' v lll:=by
 obtain ⟨us,h1,h2,h3⟩:=h;exact ⟨us,Rg.ValsB.below h1 hb,h2,fun i a b=>(h3 i a b).below hb⟩
end Go.Proofs.YthehbckogieimaaGreat

namespace Go.Proofs.YthehbckogieimaaGreat
open Go.RowKit
open Go.Proofs
attribute [local irreducible] Go.Calls
theorem Vxcl0 (args:Array Value) (w:World):(callFunc 309 args).run Tryz.prog w=.ok (.enter 309 args) w:=by kernel_rfl
theorem Vxcl1 (args:Array Value) (w:World):(callFunc 263 args).run Tryz.prog w=.ok (.enter 263 args) w:=by kernel_rfl
theorem Vxcl2 (args:Array Value) (w:World):(callFunc 264 args).run Tryz.prog w=.ok (.enter 264 args) w:=by kernel_rfl
theorem Clone_any (v:Value) (l:List Int) (w:World) (h:Rg.Ints w v l) (h1:1≤l.length) (hl:l.length≤1000000) :
  Calls Tryz.prog 123 #[v] w fun e w'=>∃ v',e=.returned v'∧w'.ownsRow w.heap.size 3 1 v' l.length (l.map (Value.int .i64))∧Below w.heap.size w w':=by
 obtain ⟨la,lc,rfl,_,_,_,hs⟩:=h.shape;obtain ⟨b,o,rfl,_⟩:=hs (by omega);have HI:=ι h;have K:=ι (Below.refl w.heap.size w);clear h hs
 go_enter Tryz.func123,Tryz.ntmps123
 go_upto_region 1 with (fail);refine Rg.wl ?_;refine Rg.lm 3 (.slice (some ⟨b,o,none⟩) l.length lc) ?_;go_frame;refine Rg.lr 4 (exec_nilF _ _ rfl rfl rfl) ?_;go_frame;go_upto_region 3 with (fail);refine Rg.wl ?_;have hnew:=Own0.new (B:=w.heap.size) w (Nat.le_refl _);refine Rg.lr 5 (Rg.exec_build0 slPerm rfl w) ?_;go_frame;have hb:=(Below.refl w.heap.size w).alloc (Nat.le_refl _) (.cells #[] 3);generalize w.alloc (.cells #[] 3)=w1 at *;replace HI:=ι (HI.out.below hb);replace K:=ι (Rg.acc K.out hb);clear hb;have FO:=ι hnew;refine Rg.lm 6 (.slice (some ⟨b,o,none⟩) l.length lc) ?_;go_frame;obtain ⟨v5,X5,r1,r2,r3⟩:=Rg.appL_run (P:=Tryz.prog) slPerm 51 FO.out.1 K.out.size HI.out ints_cells (by rw [List.length_map]; omega);refine Rg.lr 7 (Rg.exec_append _ _ _ rfl rfl rfl r1) ?_;go_frame;refine Rg.la 2 (v5) ?_;go_frame;rw [List.length_map,Nat.zero_add,List.nil_append] at r2
 have R2:=ι r2;have K5:=ι (K.out.grown r3 K.out.size (fun j hj=>(FO.out.1.lt j hj).1));clear r1 r2 r3 FO;go_wp2;go_ret;exact ⟨_,rfl,R2.out,K5.out⟩
theorem Collect_any (Bs:Nat) (sv:Value) (zs:List Int) (hlen:zs.length≤1000000) (w:World) (hBs:Bs<w.heap.size) (hc0:w.cell? ⟨Bs,0,none⟩=some sv) (hI:SInts w.heap.size w sv zs) :
  Calls Tryz.prog 263 #[.func (.func 265) #[] #[.pointer (some ⟨Bs,0,none⟩)]] w fun e w'=>∃ v,e=.returned v∧w'.ownsRow w.heap.size 3 1 v zs.length (zs.map (Value.int .i64))∧Below w.heap.size w w':=by
 have hcon:=callsIn_wide.1 (appendSeq_in Fence.wide 3 trivial trivial rfl (by omega) Bs sv zs hlen w hBs hc0 hI);clear hBs hc0 hI
 go_enter Tryz.func263,Tryz.ntmps263
 go_upto_region 1 with (fail);refine Rg.wl ?_;refine Rg.lm 3 (.func (.func 265) #[] #[.pointer (some ⟨Bs,0,none⟩)]) ?_;go_frame;refine Rg.lk 4 (exec_fn 309 _ _ _ rfl rfl rfl (Vxcl0 _ _)) ?_;refine (hcon).mono ?_;rintro e1 w1 ⟨v,rfl,hrow,hb⟩;have R:=ι hrow;have KB:=ι hb;refine ⟨_,rfl,?_⟩;go_frame;clear hb;refine Rg.la 2 (v) ?_;go_frame;clear hcon hrow;go_wp2;go_ret;exact ⟨_,rfl,R.out,KB.out⟩
theorem Sorted_any (Bs:Nat) (sv:Value) (zs:List Int) (h1:1≤zs.length) (hlen:zs.length≤1000000) (w:World) (hBs:Bs<w.heap.size) (hc0:w.cell? ⟨Bs,0,none⟩=some sv) (hI:SInts w.heap.size w sv zs) :
  Calls Tryz.prog 193 #[.func (.func 265) #[] #[.pointer (some ⟨Bs,0,none⟩)]] w fun e w'=>∃ v,e=.returned v∧w'.ownsRow w.heap.size 3 1 v zs.length ((Ob.asc zs).map (Value.int .i64))∧Below w.heap.size w w':=by
 have hcon:=Collect_any Bs sv zs hlen w hBs hc0 hI;clear hBs hc0 hI
 go_enter Tryz.func193,Tryz.ntmps193
 go_upto_region 1 with (fail);refine Rg.wl ?_;refine Rg.lm 4 (.func (.func 265) #[] #[.pointer (some ⟨Bs,0,none⟩)]) ?_;go_frame;refine Rg.lk 5 (exec_fn1 263 _ _ rfl rfl (Vxcl1 _ _)) ?_;refine (hcon).mono ?_;rintro e1 w1 ⟨v,rfl,hrow,hb⟩;have R:=ι hrow;have KB:=ι hb;refine ⟨_,rfl,?_⟩;go_frame;clear hb;refine Rg.la 3 (v) ?_;go_frame;clear hcon hrow;go_upto_region 2 with (fail);refine Rg.wl ?_;refine Rg.lm 6 (v) ?_;go_frame;refine Rg.lk 7 (exec_fn1 264 _ _ rfl rfl (Vxcl2 _ _)) ?_;refine (sort_own w.heap.size zs.length v zs w1 R.out h1 (by omega)).mono ?_;rintro e1 w2 ⟨⟨r,rfl⟩,hrow2,hgr⟩;have R2:=ι hrow2;have K2:=ι (KB.out.grown hgr KB.out.size (fun j hj=>(R.out.lt j hj).1));refine ⟨_,rfl,?_⟩;go_frame;clear hgr;clear hrow2;go_wp2;go_ret;exact ⟨_,rfl,R2.out,K2.out⟩
end Go.Proofs.YthehbckogieimaaGreat

namespace Go.Proofs.Cm
open Go.Proofs
structure PC (n:Nat) (H:List Nat→Prop) (tr:Tr) (k:Nat) (O:List (List Nat)) (R:List (List (List Nat))):Prop where
 lenO:O.length=k
 lenR:R.length=k
 asc:∀ i,i<k→(O.getD i []).Pairwise (· < ·)
 orb:∀ i p,i<k→(p∈O.getD i []↔∃ u,tr i p=some u)
 len:∀ i,i<k→(R.getD i []).length=(O.getD i []).length
 rep:∀ i j,i<k→j<(O.getD i []).length→Lst n (fun z=>St H i z∧ap z i=(O.getD i []).getD j 0) ((R.getD i []).getD j [])
theorem PC.nil (n:Nat) (H:List Nat→Prop) (tr:Tr):PC n H tr 0 [] []:=⟨rfl,rfl,fun _ h=>absurd h (Nat.not_lt_zero _),fun _ _ h=>absurd h (Nat.not_lt_zero _),fun _ h=>absurd h (Nat.not_lt_zero _),fun _ _ h=>absurd h (Nat.not_lt_zero _)⟩
theorem PC.snoc {n:Nat} {H:List Nat→Prop} {tr:Tr} {k:Nat} {O:List (List Nat)} {R:List (List (List Nat))} (h:PC n H tr k O R) {o:List Nat} {r:List (List Nat)} (h1:o.Pairwise (· < ·)) (h2:∀ p,p∈o↔∃ u,tr k p=some u) (h3:r.length=o.length)
  (h4:∀ j,j<o.length→Lst n (fun z=>St H k z∧ap z k=o.getD j 0) (r.getD j [])):PC n H tr (k+1) (O++[o]) (R++[r]):=by
 have eO:∀ i,i<k→(O++[o]).getD i []=O.getD i []:=fun i hi=>by
  rw [List.getD_eq_getElem?_getD,List.getD_eq_getElem?_getD,List.getElem?_append_left (by rw [h.lenO]; exact hi)]
 have eR:∀ i,i<k→(R++[r]).getD i []=R.getD i []:=fun i hi=>by
  rw [List.getD_eq_getElem?_getD,List.getD_eq_getElem?_getD,List.getElem?_append_left (by rw [h.lenR]; exact hi)]
 have eO2:(O++[o]).getD k []=o:=by
  rw [List.getD_eq_getElem?_getD,List.getElem?_append_right (by rw [h.lenO]; exact Nat.le_refl _),h.lenO]; simp
 have eR2:(R++[r]).getD k []=r:=by
  rw [List.getD_eq_getElem?_getD,List.getElem?_append_right (by rw [h.lenR]; exact Nat.le_refl _),h.lenR]; simp
 refine ⟨by simp [h.lenO],by simp [h.lenR],fun i hi=>?_,fun i p hi=>?_,fun i hi=>?_,fun i j hi hj=>?_⟩
 ·by_cases e:i=k
  ·subst e; rw [eO2]; exact h1
  ·rw [eO i (by omega)]; exact h.asc i (by omega)
 ·by_cases e:i=k
  ·subst e; rw [eO2]; exact h2 p
  ·rw [eO i (by omega)]; exact h.orb i p (by omega)
 ·by_cases e:i=k
  ·subst e; rw [eO2,eR2]; exact h3
  ·rw [eO i (by omega),eR i (by omega)]; exact h.len i (by omega)
 ·by_cases e:i=k
  ·subst e; rw [eO2] at hj ⊢; rw [eR2]; exact h4 j hj
  ·rw [eO i (by omega)] at hj ⊢; rw [eR i (by omega)]; exact h.rep i j (by omega) hj
theorem PC.isChain {n:Nat} {H:List Nat→Prop} {tr:Tr} {O:List (List Nat)} {R:List (List (List Nat))} (h:PC n H tr n O R) (ht:IsTr n H tr):IsChain n H O R :=
 ⟨h.lenO,h.lenR,h.asc,fun i p hi=>by
  rw [h.orb i p hi]
  constructor
  ·rintro ⟨u,hu⟩
   exact ⟨u,⟨ht.mem i p u hi hu,ht.rp.fx i p u (Nat.zero_le _) hi hu⟩,ht.rp.at_ i p u (Nat.zero_le _) hi hu⟩
  ·rintro ⟨x,hx,rfl⟩
   exact ht.all i x hi hx,h.len,h.rep⟩
theorem sort_nat (xs:List Nat) (nd:xs.Nodup):∃ l:List Nat,((xs.map (fun x:Nat=>(x:Int))).mergeSort (fun a b=>decide (a≤b)))=l.map (fun x:Nat=>(x:Int))∧l.Pairwise (· < ·)∧(∀ p,p∈l↔p∈xs)∧l.length=xs.length:=by
 have hp:=List.mergeSort_perm (xs.map (fun x:Nat=>(x:Int))) (fun a b=>decide (a≤b));have hs:=List.pairwise_mergeSort (le:=fun a b:Int=>decide (a≤b)) (fun a b c h1 h2=>by simp at *; omega) (fun a b=>by simp; omega) (xs.map (fun x:Nat=>(x:Int)));generalize (xs.map (fun x:Nat=>(x:Int))).mergeSort (fun a b=>decide (a≤b))=m at *
 have hm:∀ z∈m,0≤z:=fun z hz=>by
  have:=hp.mem_iff.1 hz;simp at this;obtain ⟨a,_,rfl⟩:=this;omega
 have e:(m.map Int.toNat).map (fun x:Nat=>(x:Int))=m:=by
  rw [List.map_map]
  conv=>rhs; rw [← List.map_id m]
  refine List.map_congr_left fun z hz=>?_;have:=hm z hz;simp; omega
 have hnd:m.Nodup:=hp.nodup_iff.2 (List.pairwise_map.2 (nd.imp fun h e=>h (by omega)));refine ⟨m.map Int.toNat,e.symm,?_,fun p=>?_,?_⟩
 ·rw [List.pairwise_map]
  have h2:m.Pairwise (fun a b=>a≠b):=hnd;refine (List.Pairwise.and hs h2).imp_of_mem fun {a b} ha hb hab=>?_;have h3:=hm a ha;have h4:=hm b hb
  have h5:a≤b:=by simpa using hab.1
  have h6:=hab.2;omega
 ·constructor
  ·intro hpm
   obtain ⟨z,hz,rfl⟩:=List.mem_map.1 hpm;have:=hp.mem_iff.1 hz;simp at this;obtain ⟨a,ha,rfl⟩:=this
   simpa using ha
  ·intro hpx
   refine List.mem_map.2 ⟨(p:Int),hp.mem_iff.2 (List.mem_map.2 ⟨p,hpx,rfl⟩),by simp⟩
 ·rw [List.length_map,hp.length_eq,List.length_map]
end Go.Proofs.Cm

namespace Go.Proofs.YthehbckogieimaaGreat
open Go.RowKit
open Go.Proofs
open Go.Proofs.Cm (Lv Twr trOf)
attribute [local irreducible] Go.Calls
theorem CF.below {F:Nat→Prop} {w w':World} {b o:Nat} {v:Value} (h:CF F w b o v) (hb:Below w.heap.size w w'):CF F w' b o v:=h.kf (KF.of_below hb)
theorem FP.below {F:Nat→Prop} {w w':World} {v:Value} {p:List Nat} (h:FP F w v p) (hb:Below w.heap.size w w'):FP F w' v p:=h.kf (KF.of_below hb)
theorem CL.below {w w':World} {b o:Nat} {v:Value} (h:CL w b o v) (hb:Below w.heap.size w w'):CL w' b o v:=h.up hb
theorem TowAt.below {F:Nat→Prop} {L n:Nat} {w w':World} {T:Twr} {V:Nat→LV} (h:TowAt F L n w T V) (hb:Below w.heap.size w w'):TowAt F L n w' T V:=by
 have hk:Rg.Kp (fun _=>False) w w':=Rg.Kp.of_below hb;exact ⟨fun k hf=>Nat.lt_of_lt_of_le (h.Flt k hf) hb.size,h.LF,rowIs_kp h.row hk id,fun i hi=>(h.lv i hi).kp hk (fun _ _=>id) (fun _ _=>id),h.dist⟩
theorem SInts.of_own {w:World} {B:Nat} {e:TypeId} {v:Value} {n:Nat} {xs:List Int} (h:w.ownsRow B e 1 v n (xs.map (Value.int .i64))) (hn:n=xs.length) (h0:0<n):SInts w.heap.size w v xs:=by
 subst hn;have hh:=h;obtain ⟨h1,h2⟩:=h
 rcases h2 with ⟨_,h0'⟩ | ⟨g,cap,cur,rfl,hg,hc,h3,h4,h5,h6⟩
 ·omega
 ·refine ⟨g,0,cap,rfl,(Array.getElem?_eq_some_iff.1 hc).1,fun j hj=>?_⟩
  obtain ⟨g',c',u,e1,e2,e3,e4⟩:=row_of hh hj;simp at e1;obtain ⟨rfl,_⟩:=e1;rw [e2];simp [List.getElem?_eq_getElem hj] at e3 ⊢;exact e3.symm
theorem SInts.up {w w':World} {v:Value} {xs:List Int} (h:SInts w.heap.size w v xs) (hb:Below w.heap.size w w'):SInts w'.heap.size w' v xs:=by
 obtain ⟨b,o,c,e,h1,h2⟩:=h;exact ⟨b,o,c,e,Nat.lt_of_lt_of_le h1 hb.size,fun j hj=>(hb.cell (p:=⟨b,o+j,none⟩) h1).trans (h2 j hj)⟩
theorem values_any (a:Option Addr) (len cap:Nat) (w:World) :
  Calls Tryz.prog 194 #[.slice a len cap] w fun e w'=>∃ fb,e=.returned (.func (.func 265) #[] #[.pointer (some ⟨fb,0,none⟩)])∧CL w' fb 0 (.slice a len cap)∧Below w.heap.size w w':=by
 refine (callsIn_wide.1 (values_in Fence.wide 3 trivial rfl a len cap w)).mono ?_;rintro e w' ⟨rfl,rfl⟩;exact ⟨_,rfl,⟨by rw [Rg.cellNew]; rfl,by simp⟩,(Below.refl _ _).alloc (Nat.le_refl _) _⟩
def PG (B:Nat) (W:World) (v:Value) (k:Nat):Prop:=B≤k∧k<W.heap.size∧v.ownBlock≠some k
structure RowP (B:Nat) (W:World) (v:Value) (ll:List (List Int)):Prop where
 own:∃ us,W.ownsRow B 51 1 v ll.length us∧Rg.FElts (PG B W v) W us ll
theorem RowP.nil (B:Nat) (W:World):RowP B W (.slice none 0 0) []:=⟨[],World.ownsRow_nil _ _ _ _,Rg.FElts.nil _ _⟩
theorem RowP.below {B:Nat} {W W':World} {v:Value} {ll:List (List Int)} (h:RowP B W v ll) (hb:Below W.heap.size W W'):RowP B W' v ll:=by
 obtain ⟨us,h1,h2⟩:=h.own;exact ⟨us,Rg.row_below h1 hb,(h2.kp (M:=fun _=>False) (Rg.Kp.of_below hb) (fun _ _=>id)).mono fun k hk=>⟨hk.1,Nat.lt_of_lt_of_le hk.2.1 hb.size,hk.2.2⟩⟩
theorem RowP.push {B:Nat} {W:World} {v:Value} {ll:List (List Int)} (h:RowP B W v ll) (hB:B≤W.heap.size) {u:Value} {l:List Int} {B2:Nat} (hu:W.ownsRow B2 3 1 u l.length (l.map (Value.int .i64))) (hl:l.length≤1000000000) (hB2:∀ k,u.ownBlock=some k→B≤k∧v.ownBlock≠some k) (hn:ll.length<1000000) (ty:TypeId) :
  ∃ a c X,(Builtin.append_ #[22,22] ty #[v,.slice (some ⟨W.heap.size,0,none⟩) 1 1]).run Tryz.prog (W.alloc (.cells #[u] 51))=.ok (.slice a (ll.length+1) c) X∧RowP B X (.slice a (ll.length+1) c) (ll++[l])∧(∀ {B':Nat} {W0:World},B'≤B→Below B' W0 W→Below B' W0 X):=by
 obtain ⟨us,h1,h2⟩:=h.own;have hb:Below W.heap.size W (W.alloc (.cells #[u] 51)):=(Below.refl _ _).alloc (Nat.le_refl _) _;obtain ⟨ua,uc,hue⟩:=Rg.row_shape hu;have hv:Rg.FI (PG B W v) W u l:=Rg.FVals.of (Rg.Vals.of_row hu hl) (fun k e=>⟨(hB2 k e).1,(hu.lt k e).2,(hB2 k e).2⟩);have hlt:=fun k e=>(h1.lt k e).2;obtain ⟨v',X,r1,r2,r3,r4,a,c,rfl⟩:=app_run (P:=Tryz.prog) slPerms ty (Rg.row_below h1 hb) (Nat.le_trans hB hb.size) W.heap.size 1 (u:=u) (by rw [Rg.cellNew]; rfl) (by rw [hue]; rfl) hn;have hk1:Rg.Kp (fun _=>False) W (W.alloc (.cells #[u] 51)):=Rg.Kp.of_below hb
 have hsz:(W.alloc (.cells #[u] 51)).heap.size=W.heap.size+1:=by simp
 have hk:Rg.Kp (fun k=>v.ownBlock=some k) W X:=Rg.Kp.trans (M:=fun k=>v.ownBlock=some k) (hk1.weak fun _=>False.elim) (Rg.Kp.of_grown r3 fun _ e=>e) (fun _ _ e=>e);have hg:∀ k,PG B W v k→¬ v.ownBlock=some k:=fun k g=>g.2.2
 have hm:∀ k,PG B W v k→PG B X (.slice a (ll.length+1) c) k:=fun k g=>by
  refine ⟨g.1,Nat.lt_of_lt_of_le g.2.1 hk.size,fun e=>?_⟩
  rcases r4 with r4 | r4
  ·rw [r4] at e; exact g.2.2 e
  ·rw [r4] at e; injection e with e; have:=g.2.1; omega
 refine ⟨a,c,X,r1,⟨us++[u],by rw [List.length_append]; exact r2,(FElts.snoc (h2.kp hk hg) (hv.kp hk hg)).mono hm⟩,fun {B' W0} hB' hb0=>?_⟩;refine (hb0.trans ⟨hk.os,hk.tape,hk.output,hk.size,fun k hk'=>hk.block k ?_ fun e=>?_⟩)
 ·have:=hb0.size; omega
 ·have:=(h1.lt k e).1; omega
end Go.Proofs.YthehbckogieimaaGreat

namespace Go.Proofs.Rg
open Go Go.RowKit
variable {P:Program} {md:Region.Mode} {ops:Array Oper} {Q:Exit→Act→World→Prop} {S:Array Bool→World→Prop}
theorem Any.c2f1q {i k j q di dk dj dq:Nat} {vq:Value} {I R0:World→Prop} {Ri Rk Rj:Value→World→Prop} {n:Nat} {l:Array Bool} {a:Act} {w:World} (hS:∀ l W,I W→S l W)
  (ij:i≠j) (kj:k≠j) (qj:q≠j) (dij:di≠dj) (dkj:dk≠dj) (dqj:dq≠dj)
  (r0:Region.ready md ops l=[i,j]) (ri:Region.ready md ops (l.setIfInBounds i true)=[k,j]) (rj:Region.ready md ops (l.setIfInBounds j true)=[i])
  (rikq:Region.ready md ops (((l.setIfInBounds i true).setIfInBounds k true).setIfInBounds q true)=[j]) (rij:Region.ready md ops ((l.setIfInBounds i true).setIfInBounds j true)=[k])
  (hq1:∀ u x W m,S ((l.setIfInBounds i true).setIfInBounds k true) W→Any P md ops Q S m (((l.setIfInBounds i true).setIfInBounds k true).setIfInBounds q true) (((a.put (some di) u).put (some dk) x).put (some dq) vq) W→Any P md ops Q S (m+1) ((l.setIfInBounds i true).setIfInBounds k true) ((a.put (some di) u).put (some dk) x) W)
  (hq2:∀ u v x W m,S (((l.setIfInBounds i true).setIfInBounds j true).setIfInBounds k true) W→Any P md ops Q S m ((((l.setIfInBounds i true).setIfInBounds j true).setIfInBounds k true).setIfInBounds q true) ((((a.put (some di) u).put (some dj) v).put (some dk) x).put (some dq) vq) W→Any P md ops Q S (m+1) (((l.setIfInBounds i true).setIfInBounds j true).setIfInBounds k true) (((a.put (some di) u).put (some dj) v).put (some dk) x) W)
  (s0:∀ W W',Below W.heap.size W W'→R0 W→R0 W') (si:∀ u W W',Below W.heap.size W W'→Ri u W→Ri u W') (sk:∀ u W W',Below W.heap.size W W'→Rk u W→Rk u W') (sj:∀ u W W',Below W.heap.size W W'→Rj u W→Rj u W')
  (hi:∀ b,(b=a∨∃ u,b=a.put (some dj) u)→∀ W,I W→Does P ops Q i di I Ri (fun W W'=>Below W.heap.size W W') b W)
  (hj:∀ b,(b=a∨(∃ u,b=a.put (some di) u)∨∃ u v,b=((a.put (some di) u).put (some dk) v).put (some dq) vq)→∀ W,I W→Does P ops Q j dj I Rj (fun W W'=>Below W.heap.size W W') b W)
  (hk:∀ u b,(b=a.put (some di) u∨∃ v,b=(a.put (some di) u).put (some dj) v)→∀ W,I W→R0 W→Ri u W→Does P ops Q k dk I Rk (fun W W'=>∀ v,Rj v W→Rj v W') b W)
  (hI:I w) (h0:R0 w) (h:∀ W u x v,I W→Rk x W→Rj v W→Any P md ops Q S n ((((l.setIfInBounds i true).setIfInBounds k true).setIfInBounds q true).setIfInBounds j true) ((((a.put (some di) u).put (some dk) x).put (some dq) vq).put (some dj) v) W) :
  Any P md ops Q S (n+4) l a w:=by
 have ha:∀ u x v:Value,(((a.put (some di) u).put (some dj) v).put (some dk) x).put (some dq) vq=((((a.put (some di) u).put (some dk) x).put (some dq) vq).put (some dj) v):=fun u x v=>by
  rw [put_comm (a.put (some di) u) v x (Ne.symm dkj),put_comm ((a.put (some di) u).put (some dk) x) v vq (Ne.symm dqj)]
 have hl:(((l.setIfInBounds i true).setIfInBounds j true).setIfInBounds k true).setIfInBounds q true=(((l.setIfInBounds i true).setIfInBounds k true).setIfInBounds q true).setIfInBounds j true:=by
  rw [Array.setIfInBounds_comm true true (xs:=l.setIfInBounds i true) (Ne.symm kj),Array.setIfInBounds_comm true true (xs:=(l.setIfInBounds i true).setIfInBounds k true) (Ne.symm qj)]
 refine Any.two r0 ?_ ?_
 ·refine wpOp_mono ?_ (hi a (.inl rfl) w hI)
  rintro c W ⟨u,rfl,h1,h2,h3⟩;refine ⟨hS _ _ h1,Any.two ri ?_ ?_⟩
  ·refine wpOp_mono ?_ (hk u _ (.inl rfl) W h1 (s0 _ _ h3 h0) h2)
   rintro c W' ⟨x,rfl,g1,g2,g3⟩;refine ⟨hS _ _ g1,hq1 u x W' (n+1) (hS _ _ g1) (Any.one rikq ?_)⟩;refine wpOp_mono ?_ (hj _ (.inr (.inr ⟨u,x,rfl⟩)) W' g1);rintro c W'' ⟨v,rfl,e1,e2,e3⟩;exact ⟨hS _ _ e1,h _ _ _ _ e1 (sk _ _ _ e3 g2) e2⟩
  ·refine wpOp_mono ?_ (hj _ (.inr (.inl ⟨u,rfl⟩)) W h1)
   rintro c W' ⟨v,rfl,g1,g2,g3⟩;refine ⟨hS _ _ g1,Any.one rij ?_⟩;refine wpOp_mono ?_ (hk u _ (.inr ⟨v,rfl⟩) W' g1 (s0 _ _ g3 (s0 _ _ h3 h0)) (si _ _ _ g3 h2));rintro c W'' ⟨x,rfl,e1,e2,e3⟩;refine ⟨hS _ _ e1,hq2 u v x W'' n (hS _ _ e1) ?_⟩;rw [ha,hl];exact h W'' u x v e1 e2 (e3 _ g2)
 ·refine wpOp_mono ?_ (hj a (.inl rfl) w hI)
  rintro c W ⟨v,rfl,h1,h2,h3⟩;refine ⟨hS _ _ h1,Any.one rj ?_⟩;refine wpOp_mono ?_ (hi _ (.inr ⟨v,rfl⟩) W h1);rintro c W' ⟨u,rfl,g1,g2,g3⟩;refine ⟨hS _ _ g1,Any.one (by rw [Array.setIfInBounds_comm _ _ (Ne.symm ij)]; exact rij) ?_⟩;rw [put_comm a v u (Ne.symm dij),Array.setIfInBounds_comm _ _ (Ne.symm ij)];refine wpOp_mono ?_ (hk u _ (.inr ⟨v,rfl⟩) W' g1 (s0 _ _ g3 (s0 _ _ h3 h0)) g2);rintro c W'' ⟨x,rfl,e1,e2,e3⟩;refine ⟨hS _ _ e1,hq2 u v x W'' n (hS _ _ e1) ?_⟩;rw [ha,hl];exact h W'' u x v e1 e2 (e3 _ (sj _ _ _ g3 h2))
end Go.Proofs.Rg
