/- Lemmas and contracts on the way to the statement; no condition of their own beyond those written. -/
import Derived.Test.YthehbckogieimaaGreatXVztoWm
import Derived.Deep.CutRange
import Derived.Deep.CutBlock
import Derived.IntWalk
import Derived.Great.BuildSlice
import Derived.ArgAppend
import Derived.Laws.CopyOwn
import Derived.StillTailTactics
import Derived.Deep.MidRow
import Derived.WalkSpells
import Derived.WalkLawsBesides
import Derived.Maps.AppendAt
import Derived.OwnWalk
import Derived.OrdersHeld
import Derived.Deep.OwnRows
import Derived.WalkKit
import Derived.Lib.Hide
import Derived.Laws.OwnMore
import Derived.Test.YthehbckogieimaaGreatProg
import Derived.Outline
import Derived.Deep.DeepFit
import Derived.BigQuiet
import Derived.Deep.QuietTactic
import Derived.Sort.OwnSortedInts
import Derived.WideMake
import Derived.MapKept
import Derived.ChangeMaps5
import Derived.Shelf.Sort.Plain
import Derived.RangeFuncBox
import Derived.RangeFuncLeaves
import Derived.Shelf.Abstract
import Derived.OwnWalkIn
import Derived.TacticsInMore
import Derived.LoopNIn
import Derived.LoopIn
import Derived.RangeFuncWrites
import Derived.RangeFuncNested
import Derived.Sort.CutIn
import Derived.Lib.ConvBytes
import Derived.Laws.Tables
import Derived.Deep.WholeRow
import Derived.ChangeKeysEq
import Derived.Laws.Cells
import Derived.Laws.Rows
import Derived.OrdersIn
import Derived.TacticsIn
import Derived.Deep.LoopGhost
import Derived.Lib.SlicesSearch
import Derived.Stop.BytesEq
import Derived.Shelf.SlSortCmp.Whole1
import Derived.Ground.SlsfProg
set_option linter.unusedVariables false
set_option linter.unusedSimpArgs false
set_option maxRecDepth 100000
set_option maxHeartbeats 8000000
namespace Go.Proofs.YthehbckogieimaaGreat
open Go.RowKit
open Go.Proofs
open Go.Proofs.Cm (Tr TabOk)
attribute [local irreducible] Go.Calls Go.wpList
theorem Wncl0 (args:Array Value) (w:World):(callFunc 101 args).run Tryz.prog w=.ok (.enter 101 args) w:=by kernel_rfl
theorem Wncl1 (args:Array Value) (w:World):(callFunc 268 args).run Tryz.prog w=.ok (.enter 268 args) w:=by kernel_rfl
theorem Wncl3 (args:Array Value) (w:World):(callFunc 70 args).run Tryz.prog w=.ok (.enter 70 args) w:=by kernel_rfl
theorem OwI.up {B:Nat} {W W':World} {v:Value} {l:List Int} (h:OwI B W v l) (hb:Below W.heap.size W W'):OwI B W' v l:=h.below hb
theorem OwI.at {B:Nat} {W:World} {a:Option Addr} {m c:Nat} {l:List Nat} (h:OwI B W (.slice a m c) (Ma.ofN l)) {k:Nat} (hk:k<l.length):∃ g,a=some ⟨g,0,none⟩∧CL W g (0+k) (.int .i64 ((l[k]:Nat):Int)):=by
 obtain ⟨g,c',u,e1,e2,e3,e4⟩:=row_of h.own (k:=k) (by rw [Ma.len_ofN]; exact hk)
 injection e1 with e1 _ _
 refine ⟨g,e1,?_,e4⟩;rw [e2,← e3];simp [Ma.ofN,List.getElem?_eq_getElem hk]
theorem tab_ge {n:Nat} {gs:List Nat→Prop} {tr:Tr} (h:TabOk n gs tr) {i p:Nat} {u:List Nat} (h1:tr i p=some u):i≤p:=by
 have hne:p≠i:=fun e=>by subst e; rw [h.diag] at h1; cases h1
 have hid:Cm.idT n tr i p=some u:=by rw [Cm.idT_ne hne]; exact h1
 have hi:=(h.lt i p u h1).1;have hp:=(h.lt i p u h1).2;refine Nat.le_of_not_lt fun hlt=>hne ?_;have a1:=h.rp.at_ i p u (Nat.zero_le _) hi hid;have a2:=h.rp.fx i p u (Nat.zero_le _) hi hid p hlt;exact Cm.ap_inj (h.rp.gd i p u (Nat.zero_le _) hi hid) hp hi (a2.trans a1.symm)
theorem mem_orbL {n:Nat} {gs:List Nat→Prop} {tr:Tr} (h:TabOk n gs tr) {i p:Nat} (hi:i<n):p∈orbL n tr i↔∃ u,Cm.idT n tr i p=some u:=by
 unfold orbL;rw [mem_orbP]
 constructor
 ·rintro ⟨h1,h2,h3⟩
  by_cases e:p=i
  ·subst e; exact ⟨_,Cm.idT_self⟩
  ·rw [Cm.idT_ne e]
   rcases h3 with h3 | h3
   ·exact absurd h3 e
   ·exact Option.isSome_iff_exists.1 h3
 ·rintro ⟨u,hu⟩
  by_cases e:p=i
  ·subst e; exact ⟨hi,Nat.le_refl _,.inl rfl⟩
  ·rw [Cm.idT_ne e] at hu
   exact ⟨(h.lt i p u hu).2,tab_ge h hu,.inr (by rw [hu]; rfl)⟩
def RLPost (w:World) (n i:Nat) (H:List Nat→Prop) (u:List Nat) (e:Ending) (w':World):Prop:=∃ v y B,e=.returned v∧w.heap.size≤B∧w'.ownsRow B 3 1 v (Ma.ofN y).length ((Ma.ofN y).map (Value.int .i64))∧Cm.LI H i n u y∧Cm.Gd n y∧Below w.heap.size w w'
theorem rleast_any {n:Nat} (hn1:1≤n) (hn2:n≤64) {F0:Nat→Prop} {tb tf tc:Nat} {w:World} {tr:Tr} {Rb:Nat→Nat} {V:Nat→Nat→Value} (hT:TabAt F0 tb tf n w tr Rb V) {gs:List Nat→Prop} (hg:∀ s,gs s→Cm.Gd n s) (hok:TabOk n gs tr) (htr:Cm.IsTr n (Cm.Gr n gs) (Cm.idT n tr)) {i p:Nat} (hi:i<n) {u:List Nat} (hu:Cm.idT n tr i p=some u) :
  Calls Tryz.prog 269 #[.slice (some ⟨tb,tf,none⟩) n tc,.int .i64 ((i:Nat):Int),.int .i64 ((p:Nat):Int)] w (RLPost w n i (Cm.Gr n gs) u):=by
 have HT:=ι hT;have HH:=ι (Cm.Gr.isG hg);have OK:=ι hok;have HTR:=ι htr;have HIN:=ι hi;have HU:=ι hu;have GU0:=ι (hok.rp.gd i p u (Nat.zero_le _) hi hu);have HLI:=ι (Cm.LI.start (Cm.Gr.isG hg) hi GU0.out);have CO:=ι (hT.out i hi);have K:=ι (KG.refl hT.Flt);have KB:=ι (Below.refl w.heap.size w)
 have hpn:p<n:=by
  by_cases e:p=i
  ·omega
  ·rw [Cm.idT_ne e] at hu; exact (hok.lt i p u hu).2
 have HPN:=ι hpn;have CE:=ι (CL.mk (show w.cell? ⟨Rb i,0+p,none⟩=some (V i p) by rw [Nat.zero_add]; exact hT.cell hi hpn) (hT.lt hi));clear hT hg hok htr hu
 go_enter Tryz.func269,Tryz.ntmps269
 go_upto_region 1 with (fail);refine wp_region_list ?_;refine Rg.lm 12 (.slice (some ⟨tb,tf,none⟩) n tc) ?_;go_frame;refine Rg.lr 13 (exec_len _ _ _ rfl Tryz.underlying213 _ _ _ rfl) ?_;go_frame;refine list_ask (some 14) rfl rfl _ _ (exec_fn1 101 _ _ rfl rfl (Wncl0 _ _)) ?_;refine (kitOne_any n w (by omega)).mono ?_;rintro e1 w1 ⟨ov,rfl,hov,hb⟩;replace KB:=ι (Rg.acc KB.out hb);refine ⟨_,rfl,?_⟩;go_frame;replace HT:=ι (HT.out.up hb);replace CO:=ι (CO.out.up hb);replace CE:=ι (CE.out.up hb);replace K:=ι (K.out.up hb);have XO:=ι (FP.new (F:=F0) hov);generalize Fup F0 w w1=F1 at *;clear hb;refine Rg.la 7 (ov) ?_;go_frame;clear hov
 by_cases hpi:p=i
 ·have hpiN:(p:Int)=(i:Int):=by omega
  have XV:=ι (show FP F1 w1 ov u by
   have:=HU.out;subst hpi;rw [Cm.idT_self] at this
   injection this with this
   rw [← this]; exact XO.out)
  clear hpi XO CO CE;go_upto_region 2 with (fail);refine wp_region_list ?_;refine Rg.lm 15 (.int .i64 ((p:Nat):Int)) ?_;go_frame;refine Rg.lm 16 (.int .i64 ((i:Nat):Int)) ?_;go_frame;refine Rg.lr 17 (exec_bin (R:=.bool false) .neq _ _ _ rfl rfl rfl (b_neqB _ (decide_eq_false (by omega)))) ?_;go_frame;go_wp2
  go_loopw [8,7] (fun kv yv wr=>∃ (k:Nat) (y:List Nat) (F1:Nat→Prop),kv=.int .i64 k∧i<k∧k≤n∧Hid (FP F1 wr yv y)∧Hid (TabAt F1 tb tf n wr tr Rb V)∧Hid (KG F0 w F1 wr)∧Hid (Below w.heap.size w wr)∧Hid (Cm.Gd n y)∧Hid (Cm.LI (Cm.Gr n gs) i k u y)) (fun kv _ _=>n - (intOf kv).toNat)
  case atStart=>exact ⟨i+1,u,_,by go_num,Nat.lt_succ_self _,HIN.out,XV,HT,K,KB,GU0,HLI⟩
  case round =>
   clear XV HT K KB HLI;obtain ⟨k,y,F,rfl,hk1,hk2,X,HT,K,KB,GY,HLI⟩:=hrel;obtain ⟨yb,yo,yc,rfl⟩:=X.out.shape' GY.out hn1
   by_cases hkl:k<n
   ·have hkN:(k:Int)<(n:Int):=by omega
    have HKL:=ι hkl;go_upto_region 7 with (fail);refine wp_region_list ?_;refine Rg.lm 33 (.slice (some ⟨tb,tf,none⟩) n tc) ?_;go_frame;refine Rg.lm 34 (.int .i64 ((k:Nat):Int)) ?_;go_frame;refine list_ask (some 35) rfl rfl _ _ (exec_fn 268 _ _ _ rfl rfl rfl (Wncl1 _ _)) ?_;refine (orbit_any hn1 hn2 HT.out (fun i p u e=>tab_gd OK.out e) HKL.out).mono ?_;rintro e1 w1 ⟨ov2,rfl,hov,hb⟩;replace KB:=ι (Rg.acc KB.out hb);refine ⟨_,rfl,?_⟩;go_frame;replace HT:=ι (HT.out.up hb);replace X:=ι (X.out.up hb);replace K:=ι (K.out.up hb);have RO:=ι hov;generalize Fup F wr w1=F1 at *;clear hb;refine Rg.la 9 (ov2) ?_;go_frame;clear hov;obtain ⟨oa,oc,hsh⟩:=RO.out.shape;rw [Ma.len_ofN] at hsh;subst hsh;have HOM:=ι (fun q=>mem_orbL (p:=q) OK.out HKL.out);have HOL:=ι (orbP_len tr k n);obtain ⟨O,hO⟩:∃ O,Hid (orbL n tr k=O):=⟨_,ι rfl⟩;have hOl:=HOL.out;rw [show orbP tr k n=O from hO.out] at hOl
    replace HOL:=ι hOl;rw [hO.out] at RO HOM ⊢;obtain ⟨B9,hB9⟩:∃ B,Hid (wr.heap.size=B):=⟨_,ι rfl⟩;rw [hB9.out] at RO;clear hOl hO hB9;have HK0:=ι (show ∀ m (h:m<O.length),m<0→Cm.ap y k≤Cm.ap y O[m] from fun m _ h=>absurd h (Nat.not_lt_zero _));have HBK:=ι (show ∃ v,Cm.idT n tr k k=some v from ⟨_,Cm.idT_self⟩);go_wp2
    go_loopw [10,11] (fun bv iv wr=>∃ (b m:Nat) (F1:Nat→Prop),bv=.int .i64 b∧iv=.int .i64 m∧m≤O.length∧b<n∧Hid (FP F1 wr (.slice (some ⟨yb,yo,none⟩) n yc) y)∧Hid (TabAt F1 tb tf n wr tr Rb V)∧Hid (OwI B9 wr (.slice oa O.length oc) (Ma.ofN O))∧Hid (KG F0 w F1 wr)∧Hid (Below w.heap.size w wr)∧Hid (∃ v,Cm.idT n tr k b=some v)∧Hid (∀ m' (h:m' < O.length),m' < m→Cm.ap y b≤Cm.ap y O[m'])) (fun _ iv _=>O.length - (intOf iv).toNat)
    case atStart=>exact ⟨k,0,_,rfl,rfl,Nat.zero_le _,HKL.out,X,HT,RO,K,KB,HBK,HK0⟩
    case round =>
     clear X HT RO K KB HBK HK0;obtain ⟨b,m,F,rfl,rfl,hm,hbn,X,HT,RO,K,KB,HBK,HK0⟩:=hrel
     have hoN:(O.length:Int)≤64:=by have:=HOL.out; omega
     by_cases hml:m<O.length
     ·have hmN:(m:Int)<(O.length:Int):=by omega
      obtain ⟨og,rfl,hcq⟩:=RO.out.at hml;obtain ⟨q,hq⟩:∃ q:Nat,Hid (q=O[m]):=⟨_,ι rfl⟩;rw [← hq.out] at hcq;have CQ:=ι hcq;have HML:=ι hml;have HBN:=ι hbn;have HQR:=ι ((HOM.out q).1 (by rw [hq.out]; exact List.getElem_mem hml))
      have hqn:q<n:=by
       obtain ⟨v,hv⟩:=HQR.out
       by_cases e:q=k
       ·have:=HKL.out; omega
       ·rw [Cm.idT_ne e] at hv; exact (OK.out.lt k q v hv).2
      have HQN:=ι hqn;have CXq:=ι (X.out.ap GY.out hqn);have CXb:=ι (X.out.ap GY.out hbn);obtain ⟨yq,hyq⟩:∃ z:Nat,Hid (z=Cm.ap y q):=⟨_,ι rfl⟩;obtain ⟨yb',hyb⟩:∃ z:Nat,Hid (z=Cm.ap y b):=⟨_,ι rfl⟩;rw [← hyq.out] at CXq;rw [← hyb.out] at CXb;clear hcq hqn hbn hm
      by_cases hlt:yq<yb'
      ·have hltN:(yq:Int)<(yb':Int):=by omega
       go_upto_region 12 with (fail);have hV1:Below wr.heap.size wr wr.drew:=(Below.refl _ _).drew;replace KB:=ι (Rg.acc KB.out hV1);clear hV1;have hV0:Below wr.heap.size wr wr.drew:=(Below.refl _ _).drew;replace HT:=ι (HT.out.up hV0);replace X:=ι (X.out.up hV0);replace RO:=ι (RO.out.up hV0);replace CQ:=ι (CQ.out.up hV0);replace CXq:=ι (CXq.out.up hV0);replace CXb:=ι (CXb.out.up hV0);replace K:=ι (K.out.up hV0);generalize Fup F wr wr.drew=F1 at *;clear hV0;refine Rg.Any.begin (S:=Rg.Both 11 (fun _=>True) (fun W=>Below wr.drew.heap.size wr.drew W)) mix ?_;generalize wr.drew=w1 at *;have hS:∀ (l:Array Bool) W,Below w1.heap.size w1 W→Rg.Both 11 (fun _=>True) (fun W=>Below w1.heap.size w1 W) l W:=fun l W h=>⟨.inr trivial,h⟩;have hI:Below w1.heap.size w1 w1:=Below.refl _ _;refine Rg.tm 0 11 (.slice (some ⟨yb,yo,none⟩) n yc) 43 (hS _ _ hI) ?_;go_frame
       refine Rg.tm 1 11 (.slice (some ⟨og,0,none⟩) O.length oc) 44 (hS _ _ hI) ?_;go_frame;refine Rg.tm 2 11 (.int .i64 ((m:Nat):Int)) 45 (hS _ _ hI) ?_;go_frame;refine Rg.tg 3 11 (.pointer (some ⟨og,0+m,none⟩)) 46 rfl rfl (Rg.yields_index slInts _ _ rfl rfl og (0) (O.length) oc (m) rfl rfl HML.out) (hS _ _ hI) ?_;go_frame;refine Rg.tg 4 11 (.int .i64 ((q:Nat):Int)) 47 rfl rfl (Rg.yields_cell _ _ rfl rfl ⟨og,0+m,none⟩ rfl (fun W hW=>run_loadInt ((Below.cell (p:=⟨og,0+m,none⟩) hW CQ.out.lt).trans CQ.out.cell))) (hS _ _ hI) ?_;go_frame;refine Rg.tg 5 11 (.pointer (some ⟨yb,yo+q,none⟩)) 48 rfl rfl (Rg.yields_index slPerm _ _ rfl rfl yb (yo) (n) yc (q) rfl rfl HQN.out) (hS _ _ hI) ?_;go_frame;refine Rg.tg 6 11 (.int .i64 ((yq:Nat):Int)) 49 rfl rfl (Rg.yields_cell _ _ rfl rfl ⟨yb,yo+q,none⟩ rfl (fun W hW=>run_loadInt ((Below.cell (p:=⟨yb,yo+q,none⟩) hW CXq.out.lt).trans CXq.out.cell))) (hS _ _ hI) ?_;go_frame
       refine Rg.tm 7 11 (.slice (some ⟨yb,yo,none⟩) n yc) 50 (hS _ _ hI) ?_;go_frame;refine Rg.tm 8 11 (.int .i64 ((b:Nat):Int)) 51 (hS _ _ hI) ?_;go_frame;refine Rg.tg 9 11 (.pointer (some ⟨yb,yo+b,none⟩)) 52 rfl rfl (Rg.yields_index slPerm _ _ rfl rfl yb (yo) (n) yc (b) rfl rfl HBN.out) (hS _ _ hI) ?_;go_frame;refine Rg.tg 10 11 (.int .i64 ((yb':Nat):Int)) 53 rfl rfl (Rg.yields_cell _ _ rfl rfl ⟨yb,yo+b,none⟩ rfl (fun W hW=>run_loadInt ((Below.cell (p:=⟨yb,yo+b,none⟩) hW CXb.out.lt).trans CXb.out.cell))) (hS _ _ hI) ?_;go_frame;refine Rg.Any.one (i:=11) (by kernel_rfl) (Rg.Any.run (some 54) rfl rfl rfl (exec_bin (R:=.bool true) .lss _ _ _ rfl rfl rfl (b_lss _ (decide_eq_true (by omega)))) (hS _ _ hI) ?_);go_frame;refine Rg.Any.done (by kernel_rfl) ?_ _;clear hS hI;go_upto_region 13 with (fail);refine wp_region_list ?_;refine Rg.lm 55 (.slice (some ⟨og,0,none⟩) O.length oc) ?_;go_frame
       refine Rg.lm 56 (.int .i64 ((m:Nat):Int)) ?_;go_frame;refine Rg.lr 57 (exec_indexS slInts _ _ rfl og (0) (O.length) oc (m) rfl rfl HML.out) ?_;go_frame;refine Rg.lr 58 (Rg.exec_load (v:=.int .i64 ((q:Nat):Int)) _ _ rfl ⟨og,0+m,none⟩ rfl (run_loadInt CQ.out.cell)) ?_;go_frame;refine Rg.la 10 (.int .i64 ((q:Nat):Int)) ?_;go_frame
       have HK1:=ι (show ∀ m' (h:m' < O.length),m' < m+1→Cm.ap y q≤Cm.ap y O[m'] from fun m' h h2=>by
        have a1:=hyq.out;have a2:=hyb.out
        by_cases e:m'=m
        ·subst e
         rw [← hq.out]; omega
        ·have:=HK0.out m' h (by omega)
         omega)
       go_wp2
       go_roundw
       case rel=>exact ⟨q,m+1,_,rfl,by go_num,HML.out,HQN.out,X,HT,RO,K,KB,HQR,HK1⟩
       case measure=>simp [intOf]; have:=HML.out; omega
      ·have hltN:¬ (yq:Int)<(yb':Int):=by omega
       go_upto_region 12 with (fail);have hV1:Below wr.heap.size wr wr.drew:=(Below.refl _ _).drew;replace KB:=ι (Rg.acc KB.out hV1);clear hV1;have hV0:Below wr.heap.size wr wr.drew:=(Below.refl _ _).drew;replace HT:=ι (HT.out.up hV0);replace X:=ι (X.out.up hV0);replace RO:=ι (RO.out.up hV0);replace CQ:=ι (CQ.out.up hV0);replace CXq:=ι (CXq.out.up hV0);replace CXb:=ι (CXb.out.up hV0);replace K:=ι (K.out.up hV0);generalize Fup F wr wr.drew=F1 at *;clear hV0;refine Rg.Any.begin (S:=Rg.Both 11 (fun _=>True) (fun W=>Below wr.drew.heap.size wr.drew W)) mix ?_;generalize wr.drew=w1 at *;have hS:∀ (l:Array Bool) W,Below w1.heap.size w1 W→Rg.Both 11 (fun _=>True) (fun W=>Below w1.heap.size w1 W) l W:=fun l W h=>⟨.inr trivial,h⟩;have hI:Below w1.heap.size w1 w1:=Below.refl _ _;refine Rg.tm 0 11 (.slice (some ⟨yb,yo,none⟩) n yc) 43 (hS _ _ hI) ?_;go_frame
       refine Rg.tm 1 11 (.slice (some ⟨og,0,none⟩) O.length oc) 44 (hS _ _ hI) ?_;go_frame;refine Rg.tm 2 11 (.int .i64 ((m:Nat):Int)) 45 (hS _ _ hI) ?_;go_frame;refine Rg.tg 3 11 (.pointer (some ⟨og,0+m,none⟩)) 46 rfl rfl (Rg.yields_index slInts _ _ rfl rfl og (0) (O.length) oc (m) rfl rfl HML.out) (hS _ _ hI) ?_;go_frame;refine Rg.tg 4 11 (.int .i64 ((q:Nat):Int)) 47 rfl rfl (Rg.yields_cell _ _ rfl rfl ⟨og,0+m,none⟩ rfl (fun W hW=>run_loadInt ((Below.cell (p:=⟨og,0+m,none⟩) hW CQ.out.lt).trans CQ.out.cell))) (hS _ _ hI) ?_;go_frame;refine Rg.tg 5 11 (.pointer (some ⟨yb,yo+q,none⟩)) 48 rfl rfl (Rg.yields_index slPerm _ _ rfl rfl yb (yo) (n) yc (q) rfl rfl HQN.out) (hS _ _ hI) ?_;go_frame;refine Rg.tg 6 11 (.int .i64 ((yq:Nat):Int)) 49 rfl rfl (Rg.yields_cell _ _ rfl rfl ⟨yb,yo+q,none⟩ rfl (fun W hW=>run_loadInt ((Below.cell (p:=⟨yb,yo+q,none⟩) hW CXq.out.lt).trans CXq.out.cell))) (hS _ _ hI) ?_;go_frame
       refine Rg.tm 7 11 (.slice (some ⟨yb,yo,none⟩) n yc) 50 (hS _ _ hI) ?_;go_frame;refine Rg.tm 8 11 (.int .i64 ((b:Nat):Int)) 51 (hS _ _ hI) ?_;go_frame;refine Rg.tg 9 11 (.pointer (some ⟨yb,yo+b,none⟩)) 52 rfl rfl (Rg.yields_index slPerm _ _ rfl rfl yb (yo) (n) yc (b) rfl rfl HBN.out) (hS _ _ hI) ?_;go_frame;refine Rg.tg 10 11 (.int .i64 ((yb':Nat):Int)) 53 rfl rfl (Rg.yields_cell _ _ rfl rfl ⟨yb,yo+b,none⟩ rfl (fun W hW=>run_loadInt ((Below.cell (p:=⟨yb,yo+b,none⟩) hW CXb.out.lt).trans CXb.out.cell))) (hS _ _ hI) ?_;go_frame;refine Rg.Any.one (i:=11) (by kernel_rfl) (Rg.Any.run (some 54) rfl rfl rfl (exec_bin (R:=.bool false) .lss _ _ _ rfl rfl rfl (b_lss _ (decide_eq_false (by omega)))) (hS _ _ hI) ?_);go_frame;refine Rg.Any.done (by kernel_rfl) ?_ _;clear hS hI
       have HK1:=ι (show ∀ m' (h:m' < O.length),m' < m+1→Cm.ap y b≤Cm.ap y O[m'] from fun m' h h2=>by
        have a1:=hyq.out;have a2:=hyb.out
        by_cases e:m'=m
        ·subst e
         rw [← hq.out]; omega
        ·have:=HK0.out m' h (by omega)
         omega)
       go_wp2
       go_roundw
       case rel=>exact ⟨b,m+1,_,rfl,by go_num,HML.out,HBN.out,X,HT,RO,K,KB,HBK,HK1⟩
       case measure=>simp [intOf]; have:=HML.out; omega
     ·obtain rfl:m=O.length:=by omega
      have hmN:¬ (O.length:Int)<(O.length:Int):=by omega
      have HALL:=ι (show ∀ q',Cm.idT n tr k q'≠none→Cm.ap y b≤Cm.ap y q' from fun q' hq'=>by
       obtain ⟨v,hv⟩:=Option.ne_none_iff_exists'.1 hq';obtain ⟨m',hm',rfl⟩:=List.getElem_of_mem ((HOM.out q').2 ⟨v,hv⟩)
       exact HK0.out m' hm' hm')
      obtain ⟨v,hv⟩:=HBK.out;have HST:=ι (Cm.LI.step HH.out HTR.out GU0.out hk1 HKL.out HLI.out hv HALL.out);have GV:=ι (OK.out.rp.gd k b v (Nat.zero_le _) HKL.out hv);have GM:=ι (Cm.gd_mul GV.out GY.out);clear HALL HK0 HBK
      by_cases hbk:b=k
      ·have hbN:(b:Int)=(k:Int):=by omega
       have HE:=ι (show Ma.mulN v y=y by
        subst hbk;rw [Cm.idT_self] at hv
        injection hv with e
        rw [← e,Cm.one_mul GY.out])
       clear hbk hv;go_upto_region 14 with (fail);refine wp_region_list ?_;refine Rg.lm 59 (.int .i64 ((b:Nat):Int)) ?_;go_frame;refine Rg.lm 60 (.int .i64 ((k:Nat):Int)) ?_;go_frame;refine Rg.lr 61 (exec_bin (R:=.bool false) .neq _ _ _ rfl rfl rfl (b_neqB _ (decide_eq_false (by omega)))) ?_;go_frame;go_wp2
       go_roundw
       case rel=>exact ⟨k+1,y,_,by go_num,by omega,HKL.out,X,HT,K,KB,GY,ι (by have:=HST.out; rwa [HE.out] at this)⟩
       case measure=>simp [intOf]; have:=HKL.out; omega
      ·have hbN:¬ (b:Int)=(k:Int):=by omega
       rw [Cm.idT_ne hbk] at hv;have HBN:=ι hbn;have UP:=ι (HT.out.some_ k b v HKL.out hbn hv);have CO:=ι (HT.out.out k HKL.out);have CE:=ι (CL.mk (show wr.cell? ⟨Rb k,0+b,none⟩=some (V k b) by rw [Nat.zero_add]; exact HT.out.cell HKL.out hbn) (HT.out.lt HKL.out));clear hbk hv;go_upto_region 14 with (fail);refine wp_region_list ?_;refine Rg.lm 59 (.int .i64 ((b:Nat):Int)) ?_;go_frame;refine Rg.lm 60 (.int .i64 ((k:Nat):Int)) ?_;go_frame;refine Rg.lr 61 (exec_bin (R:=.bool true) .neq _ _ _ rfl rfl rfl (b_neqB _ (decide_eq_true (by omega)))) ?_;go_frame;go_upto_region 15 with (fail);refine wp_region_list ?_;refine Rg.lm 62 (.slice (some ⟨tb,tf,none⟩) n tc) ?_;go_frame;refine Rg.lm 63 (.int .i64 ((k:Nat):Int)) ?_;go_frame;refine Rg.lr 64 (exec_indexS slTable _ _ rfl tb (tf) (n) tc (k) rfl rfl HKL.out) ?_;go_frame;refine Rg.lr 65 (Rg.exec_load (v:=.slice (some ⟨(Rb k),0,none⟩) n n) _ _ rfl ⟨tb,tf+k,none⟩ rfl (Rg.run_loadSl _ _ Tryz.underlying22 CO.out.cell)) ?_;go_frame
       refine Rg.lm 66 (.int .i64 ((b:Nat):Int)) ?_;go_frame;refine Rg.lr 67 (exec_indexS slPerms _ _ rfl (Rb k) (0) (n) n (b) rfl rfl HBN.out) ?_;go_frame;refine Rg.lr 68 (Rg.exec_load (v:=(V k b)) _ _ rfl ⟨(Rb k),0+b,none⟩ rfl (Rg.run_loadSl _ _ Tryz.underlying51 CE.out.cell)) ?_;go_frame;refine Rg.lm 69 (.slice (some ⟨yb,yo,none⟩) n yc) ?_;go_frame;refine list_ask (some 70) rfl rfl _ _ (exec_fn 72 _ _ _ rfl rfl rfl (Wfcl1 _ _)) ?_;refine (kMul_f UP.out X.out GV.out GY.out hn2).mono ?_;rintro e1 w1 ⟨mv,rfl,hmv,hb⟩;replace KB:=ι (Rg.acc KB.out hb);refine ⟨_,rfl,?_⟩;go_frame;replace HT:=ι (HT.out.up hb);replace X:=ι (X.out.up hb);replace UP:=ι (UP.out.up hb);replace CO:=ι (CO.out.up hb);replace CE:=ι (CE.out.up hb);replace K:=ι (K.out.up hb);have MV:=ι hmv;generalize Fup F wr w1=F1 at *;clear hb;refine Rg.la 7 (mv) ?_;go_frame;clear hmv;go_wp2
       go_roundw
       case rel=>exact ⟨k+1,_,_,by go_num,by omega,HKL.out,MV,HT,K,KB,GM,HST⟩
       case measure=>simp [intOf]; have:=HKL.out; omega
   ·obtain rfl:k=n:=by omega
    have hkN:¬ (k:Int)<(k:Int):=by omega
    have HSZ:=ι KB.out.size;go_upto_region 16 with (fail);refine wp_region_list ?_;refine Rg.lm 71 (.slice (some ⟨yb,yo,none⟩) k yc) ?_;go_frame;refine list_ask (some 72) rfl rfl _ _ (exec_fn1 70 _ _ rfl rfl (Wncl3 _ _)) ?_;refine (Own_any _ (Ma.ofN y) wr X.out.np (by rw [Ma.len_ofN,GY.out.2]; omega)).mono ?_;rintro e1 w1 ⟨v2,rfl,hrow,hb⟩;replace KB:=ι (Rg.acc KB.out hb);have HROW:=ι hrow;clear hrow;refine ⟨_,rfl,?_⟩;go_frame;replace HT:=ι (HT.out.up hb);replace X:=ι (X.out.up hb);replace K:=ι (K.out.up hb);generalize Fup F wr w1=F1 at *;clear hb;refine Rg.la 6 (v2) ?_;go_frame;go_wp2;go_ret;exact (show RLPost _ _ _ _ _ _ _ from ⟨_,_,_,rfl,HSZ.out,HROW.out,HLI.out,GY.out,KB.out⟩)
 ·have hpiN:¬ (p:Int)=(i:Int):=by omega
  have XV:=ι (HT.out.some_ i p u HIN.out HPN.out (by have:=HU.out; rwa [Cm.idT_ne hpi] at this));clear hpi XO;go_upto_region 2 with (fail);refine wp_region_list ?_;refine Rg.lm 15 (.int .i64 ((p:Nat):Int)) ?_;go_frame;refine Rg.lm 16 (.int .i64 ((i:Nat):Int)) ?_;go_frame;refine Rg.lr 17 (exec_bin (R:=.bool true) .neq _ _ _ rfl rfl rfl (b_neqB _ (decide_eq_true (by omega)))) ?_;go_frame;go_upto_region 3 with (fail);refine wp_region_list ?_;refine Rg.lm 18 (.slice (some ⟨tb,tf,none⟩) n tc) ?_;go_frame;refine Rg.lm 19 (.int .i64 ((i:Nat):Int)) ?_;go_frame;refine Rg.lr 20 (exec_indexS slTable _ _ rfl tb (tf) (n) tc (i) rfl rfl HIN.out) ?_;go_frame;refine Rg.lr 21 (Rg.exec_load (v:=.slice (some ⟨(Rb i),0,none⟩) n n) _ _ rfl ⟨tb,tf+i,none⟩ rfl (Rg.run_loadSl _ _ Tryz.underlying22 CO.out.cell)) ?_;go_frame;refine Rg.lm 22 (.int .i64 ((p:Nat):Int)) ?_;go_frame;refine Rg.lr 23 (exec_indexS slPerms _ _ rfl (Rb i) (0) (n) n (p) rfl rfl HPN.out) ?_;go_frame
  refine Rg.lr 24 (Rg.exec_load (v:=(V i p)) _ _ rfl ⟨(Rb i),0+p,none⟩ rfl (Rg.run_loadSl _ _ Tryz.underlying51 CE.out.cell)) ?_;go_frame;refine Rg.la 7 ((V i p)) ?_;go_frame;clear CO CE;go_wp2
  go_loopw [8,7] (fun kv yv wr=>∃ (k:Nat) (y:List Nat) (F1:Nat→Prop),kv=.int .i64 k∧i<k∧k≤n∧Hid (FP F1 wr yv y)∧Hid (TabAt F1 tb tf n wr tr Rb V)∧Hid (KG F0 w F1 wr)∧Hid (Below w.heap.size w wr)∧Hid (Cm.Gd n y)∧Hid (Cm.LI (Cm.Gr n gs) i k u y)) (fun kv _ _=>n - (intOf kv).toNat)
  case atStart=>exact ⟨i+1,u,_,by go_num,Nat.lt_succ_self _,HIN.out,XV,HT,K,KB,GU0,HLI⟩
  case round =>
   clear XV HT K KB HLI;obtain ⟨k,y,F,rfl,hk1,hk2,X,HT,K,KB,GY,HLI⟩:=hrel;obtain ⟨yb,yo,yc,rfl⟩:=X.out.shape' GY.out hn1
   by_cases hkl:k<n
   ·have hkN:(k:Int)<(n:Int):=by omega
    have HKL:=ι hkl;go_upto_region 7 with (fail);refine wp_region_list ?_;refine Rg.lm 33 (.slice (some ⟨tb,tf,none⟩) n tc) ?_;go_frame;refine Rg.lm 34 (.int .i64 ((k:Nat):Int)) ?_;go_frame;refine list_ask (some 35) rfl rfl _ _ (exec_fn 268 _ _ _ rfl rfl rfl (Wncl1 _ _)) ?_;refine (orbit_any hn1 hn2 HT.out (fun i p u e=>tab_gd OK.out e) HKL.out).mono ?_;rintro e1 w1 ⟨ov2,rfl,hov,hb⟩;replace KB:=ι (Rg.acc KB.out hb);refine ⟨_,rfl,?_⟩;go_frame;replace HT:=ι (HT.out.up hb);replace X:=ι (X.out.up hb);replace K:=ι (K.out.up hb);have RO:=ι hov;generalize Fup F wr w1=F1 at *;clear hb;refine Rg.la 9 (ov2) ?_;go_frame;clear hov;obtain ⟨oa,oc,hsh⟩:=RO.out.shape;rw [Ma.len_ofN] at hsh;subst hsh;have HOM:=ι (fun q=>mem_orbL (p:=q) OK.out HKL.out);have HOL:=ι (orbP_len tr k n);obtain ⟨O,hO⟩:∃ O,Hid (orbL n tr k=O):=⟨_,ι rfl⟩;have hOl:=HOL.out;rw [show orbP tr k n=O from hO.out] at hOl
    replace HOL:=ι hOl;rw [hO.out] at RO HOM ⊢;obtain ⟨B9,hB9⟩:∃ B,Hid (wr.heap.size=B):=⟨_,ι rfl⟩;rw [hB9.out] at RO;clear hOl hO hB9;have HK0:=ι (show ∀ m (h:m<O.length),m<0→Cm.ap y k≤Cm.ap y O[m] from fun m _ h=>absurd h (Nat.not_lt_zero _));have HBK:=ι (show ∃ v,Cm.idT n tr k k=some v from ⟨_,Cm.idT_self⟩);go_wp2
    go_loopw [10,11] (fun bv iv wr=>∃ (b m:Nat) (F1:Nat→Prop),bv=.int .i64 b∧iv=.int .i64 m∧m≤O.length∧b<n∧Hid (FP F1 wr (.slice (some ⟨yb,yo,none⟩) n yc) y)∧Hid (TabAt F1 tb tf n wr tr Rb V)∧Hid (OwI B9 wr (.slice oa O.length oc) (Ma.ofN O))∧Hid (KG F0 w F1 wr)∧Hid (Below w.heap.size w wr)∧Hid (∃ v,Cm.idT n tr k b=some v)∧Hid (∀ m' (h:m' < O.length),m' < m→Cm.ap y b≤Cm.ap y O[m'])) (fun _ iv _=>O.length - (intOf iv).toNat)
    case atStart=>exact ⟨k,0,_,rfl,rfl,Nat.zero_le _,HKL.out,X,HT,RO,K,KB,HBK,HK0⟩
    case round =>
     clear X HT RO K KB HBK HK0;obtain ⟨b,m,F,rfl,rfl,hm,hbn,X,HT,RO,K,KB,HBK,HK0⟩:=hrel
     have hoN:(O.length:Int)≤64:=by have:=HOL.out; omega
     by_cases hml:m<O.length
     ·have hmN:(m:Int)<(O.length:Int):=by omega
      obtain ⟨og,rfl,hcq⟩:=RO.out.at hml;obtain ⟨q,hq⟩:∃ q:Nat,Hid (q=O[m]):=⟨_,ι rfl⟩;rw [← hq.out] at hcq;have CQ:=ι hcq;have HML:=ι hml;have HBN:=ι hbn;have HQR:=ι ((HOM.out q).1 (by rw [hq.out]; exact List.getElem_mem hml))
      have hqn:q<n:=by
       obtain ⟨v,hv⟩:=HQR.out
       by_cases e:q=k
       ·have:=HKL.out; omega
       ·rw [Cm.idT_ne e] at hv; exact (OK.out.lt k q v hv).2
      have HQN:=ι hqn;have CXq:=ι (X.out.ap GY.out hqn);have CXb:=ι (X.out.ap GY.out hbn);obtain ⟨yq,hyq⟩:∃ z:Nat,Hid (z=Cm.ap y q):=⟨_,ι rfl⟩;obtain ⟨yb',hyb⟩:∃ z:Nat,Hid (z=Cm.ap y b):=⟨_,ι rfl⟩;rw [← hyq.out] at CXq;rw [← hyb.out] at CXb;clear hcq hqn hbn hm
      by_cases hlt:yq<yb'
      ·have hltN:(yq:Int)<(yb':Int):=by omega
       go_upto_region 12 with (fail);have hV1:Below wr.heap.size wr wr.drew:=(Below.refl _ _).drew;replace KB:=ι (Rg.acc KB.out hV1);clear hV1;have hV0:Below wr.heap.size wr wr.drew:=(Below.refl _ _).drew;replace HT:=ι (HT.out.up hV0);replace X:=ι (X.out.up hV0);replace RO:=ι (RO.out.up hV0);replace CQ:=ι (CQ.out.up hV0);replace CXq:=ι (CXq.out.up hV0);replace CXb:=ι (CXb.out.up hV0);replace K:=ι (K.out.up hV0);generalize Fup F wr wr.drew=F1 at *;clear hV0;refine Rg.Any.begin (S:=Rg.Both 11 (fun _=>True) (fun W=>Below wr.drew.heap.size wr.drew W)) mix ?_;generalize wr.drew=w1 at *;have hS:∀ (l:Array Bool) W,Below w1.heap.size w1 W→Rg.Both 11 (fun _=>True) (fun W=>Below w1.heap.size w1 W) l W:=fun l W h=>⟨.inr trivial,h⟩;have hI:Below w1.heap.size w1 w1:=Below.refl _ _;refine Rg.tm 0 11 (.slice (some ⟨yb,yo,none⟩) n yc) 43 (hS _ _ hI) ?_;go_frame
       refine Rg.tm 1 11 (.slice (some ⟨og,0,none⟩) O.length oc) 44 (hS _ _ hI) ?_;go_frame;refine Rg.tm 2 11 (.int .i64 ((m:Nat):Int)) 45 (hS _ _ hI) ?_;go_frame;refine Rg.tg 3 11 (.pointer (some ⟨og,0+m,none⟩)) 46 rfl rfl (Rg.yields_index slInts _ _ rfl rfl og (0) (O.length) oc (m) rfl rfl HML.out) (hS _ _ hI) ?_;go_frame;refine Rg.tg 4 11 (.int .i64 ((q:Nat):Int)) 47 rfl rfl (Rg.yields_cell _ _ rfl rfl ⟨og,0+m,none⟩ rfl (fun W hW=>run_loadInt ((Below.cell (p:=⟨og,0+m,none⟩) hW CQ.out.lt).trans CQ.out.cell))) (hS _ _ hI) ?_;go_frame;refine Rg.tg 5 11 (.pointer (some ⟨yb,yo+q,none⟩)) 48 rfl rfl (Rg.yields_index slPerm _ _ rfl rfl yb (yo) (n) yc (q) rfl rfl HQN.out) (hS _ _ hI) ?_;go_frame;refine Rg.tg 6 11 (.int .i64 ((yq:Nat):Int)) 49 rfl rfl (Rg.yields_cell _ _ rfl rfl ⟨yb,yo+q,none⟩ rfl (fun W hW=>run_loadInt ((Below.cell (p:=⟨yb,yo+q,none⟩) hW CXq.out.lt).trans CXq.out.cell))) (hS _ _ hI) ?_;go_frame
       refine Rg.tm 7 11 (.slice (some ⟨yb,yo,none⟩) n yc) 50 (hS _ _ hI) ?_;go_frame;refine Rg.tm 8 11 (.int .i64 ((b:Nat):Int)) 51 (hS _ _ hI) ?_;go_frame;refine Rg.tg 9 11 (.pointer (some ⟨yb,yo+b,none⟩)) 52 rfl rfl (Rg.yields_index slPerm _ _ rfl rfl yb (yo) (n) yc (b) rfl rfl HBN.out) (hS _ _ hI) ?_;go_frame;refine Rg.tg 10 11 (.int .i64 ((yb':Nat):Int)) 53 rfl rfl (Rg.yields_cell _ _ rfl rfl ⟨yb,yo+b,none⟩ rfl (fun W hW=>run_loadInt ((Below.cell (p:=⟨yb,yo+b,none⟩) hW CXb.out.lt).trans CXb.out.cell))) (hS _ _ hI) ?_;go_frame;refine Rg.Any.one (i:=11) (by kernel_rfl) (Rg.Any.run (some 54) rfl rfl rfl (exec_bin (R:=.bool true) .lss _ _ _ rfl rfl rfl (b_lss _ (decide_eq_true (by omega)))) (hS _ _ hI) ?_);go_frame;refine Rg.Any.done (by kernel_rfl) ?_ _;clear hS hI;go_upto_region 13 with (fail);refine wp_region_list ?_;refine Rg.lm 55 (.slice (some ⟨og,0,none⟩) O.length oc) ?_;go_frame
       refine Rg.lm 56 (.int .i64 ((m:Nat):Int)) ?_;go_frame;refine Rg.lr 57 (exec_indexS slInts _ _ rfl og (0) (O.length) oc (m) rfl rfl HML.out) ?_;go_frame;refine Rg.lr 58 (Rg.exec_load (v:=.int .i64 ((q:Nat):Int)) _ _ rfl ⟨og,0+m,none⟩ rfl (run_loadInt CQ.out.cell)) ?_;go_frame;refine Rg.la 10 (.int .i64 ((q:Nat):Int)) ?_;go_frame
       have HK1:=ι (show ∀ m' (h:m' < O.length),m' < m+1→Cm.ap y q≤Cm.ap y O[m'] from fun m' h h2=>by
        have a1:=hyq.out;have a2:=hyb.out
        by_cases e:m'=m
        ·subst e
         rw [← hq.out]; omega
        ·have:=HK0.out m' h (by omega)
         omega)
       go_wp2
       go_roundw
       case rel=>exact ⟨q,m+1,_,rfl,by go_num,HML.out,HQN.out,X,HT,RO,K,KB,HQR,HK1⟩
       case measure=>simp [intOf]; have:=HML.out; omega
      ·have hltN:¬ (yq:Int)<(yb':Int):=by omega
       go_upto_region 12 with (fail);have hV1:Below wr.heap.size wr wr.drew:=(Below.refl _ _).drew;replace KB:=ι (Rg.acc KB.out hV1);clear hV1;have hV0:Below wr.heap.size wr wr.drew:=(Below.refl _ _).drew;replace HT:=ι (HT.out.up hV0);replace X:=ι (X.out.up hV0);replace RO:=ι (RO.out.up hV0);replace CQ:=ι (CQ.out.up hV0);replace CXq:=ι (CXq.out.up hV0);replace CXb:=ι (CXb.out.up hV0);replace K:=ι (K.out.up hV0);generalize Fup F wr wr.drew=F1 at *;clear hV0;refine Rg.Any.begin (S:=Rg.Both 11 (fun _=>True) (fun W=>Below wr.drew.heap.size wr.drew W)) mix ?_;generalize wr.drew=w1 at *;have hS:∀ (l:Array Bool) W,Below w1.heap.size w1 W→Rg.Both 11 (fun _=>True) (fun W=>Below w1.heap.size w1 W) l W:=fun l W h=>⟨.inr trivial,h⟩;have hI:Below w1.heap.size w1 w1:=Below.refl _ _;refine Rg.tm 0 11 (.slice (some ⟨yb,yo,none⟩) n yc) 43 (hS _ _ hI) ?_;go_frame
       refine Rg.tm 1 11 (.slice (some ⟨og,0,none⟩) O.length oc) 44 (hS _ _ hI) ?_;go_frame;refine Rg.tm 2 11 (.int .i64 ((m:Nat):Int)) 45 (hS _ _ hI) ?_;go_frame;refine Rg.tg 3 11 (.pointer (some ⟨og,0+m,none⟩)) 46 rfl rfl (Rg.yields_index slInts _ _ rfl rfl og (0) (O.length) oc (m) rfl rfl HML.out) (hS _ _ hI) ?_;go_frame;refine Rg.tg 4 11 (.int .i64 ((q:Nat):Int)) 47 rfl rfl (Rg.yields_cell _ _ rfl rfl ⟨og,0+m,none⟩ rfl (fun W hW=>run_loadInt ((Below.cell (p:=⟨og,0+m,none⟩) hW CQ.out.lt).trans CQ.out.cell))) (hS _ _ hI) ?_;go_frame;refine Rg.tg 5 11 (.pointer (some ⟨yb,yo+q,none⟩)) 48 rfl rfl (Rg.yields_index slPerm _ _ rfl rfl yb (yo) (n) yc (q) rfl rfl HQN.out) (hS _ _ hI) ?_;go_frame;refine Rg.tg 6 11 (.int .i64 ((yq:Nat):Int)) 49 rfl rfl (Rg.yields_cell _ _ rfl rfl ⟨yb,yo+q,none⟩ rfl (fun W hW=>run_loadInt ((Below.cell (p:=⟨yb,yo+q,none⟩) hW CXq.out.lt).trans CXq.out.cell))) (hS _ _ hI) ?_;go_frame
       refine Rg.tm 7 11 (.slice (some ⟨yb,yo,none⟩) n yc) 50 (hS _ _ hI) ?_;go_frame;refine Rg.tm 8 11 (.int .i64 ((b:Nat):Int)) 51 (hS _ _ hI) ?_;go_frame;refine Rg.tg 9 11 (.pointer (some ⟨yb,yo+b,none⟩)) 52 rfl rfl (Rg.yields_index slPerm _ _ rfl rfl yb (yo) (n) yc (b) rfl rfl HBN.out) (hS _ _ hI) ?_;go_frame;refine Rg.tg 10 11 (.int .i64 ((yb':Nat):Int)) 53 rfl rfl (Rg.yields_cell _ _ rfl rfl ⟨yb,yo+b,none⟩ rfl (fun W hW=>run_loadInt ((Below.cell (p:=⟨yb,yo+b,none⟩) hW CXb.out.lt).trans CXb.out.cell))) (hS _ _ hI) ?_;go_frame;refine Rg.Any.one (i:=11) (by kernel_rfl) (Rg.Any.run (some 54) rfl rfl rfl (exec_bin (R:=.bool false) .lss _ _ _ rfl rfl rfl (b_lss _ (decide_eq_false (by omega)))) (hS _ _ hI) ?_);go_frame;refine Rg.Any.done (by kernel_rfl) ?_ _;clear hS hI
       have HK1:=ι (show ∀ m' (h:m' < O.length),m' < m+1→Cm.ap y b≤Cm.ap y O[m'] from fun m' h h2=>by
        have a1:=hyq.out;have a2:=hyb.out
        by_cases e:m'=m
        ·subst e
         rw [← hq.out]; omega
        ·have:=HK0.out m' h (by omega)
         omega)
       go_wp2
       go_roundw
       case rel=>exact ⟨b,m+1,_,rfl,by go_num,HML.out,HBN.out,X,HT,RO,K,KB,HBK,HK1⟩
       case measure=>simp [intOf]; have:=HML.out; omega
     ·obtain rfl:m=O.length:=by omega
      have hmN:¬ (O.length:Int)<(O.length:Int):=by omega
      have HALL:=ι (show ∀ q',Cm.idT n tr k q'≠none→Cm.ap y b≤Cm.ap y q' from fun q' hq'=>by
       obtain ⟨v,hv⟩:=Option.ne_none_iff_exists'.1 hq';obtain ⟨m',hm',rfl⟩:=List.getElem_of_mem ((HOM.out q').2 ⟨v,hv⟩)
       exact HK0.out m' hm' hm')
      obtain ⟨v,hv⟩:=HBK.out;have HST:=ι (Cm.LI.step HH.out HTR.out GU0.out hk1 HKL.out HLI.out hv HALL.out);have GV:=ι (OK.out.rp.gd k b v (Nat.zero_le _) HKL.out hv);have GM:=ι (Cm.gd_mul GV.out GY.out);clear HALL HK0 HBK
      by_cases hbk:b=k
      ·have hbN:(b:Int)=(k:Int):=by omega
       have HE:=ι (show Ma.mulN v y=y by
        subst hbk;rw [Cm.idT_self] at hv
        injection hv with e
        rw [← e,Cm.one_mul GY.out])
       clear hbk hv;go_upto_region 14 with (fail);refine wp_region_list ?_;refine Rg.lm 59 (.int .i64 ((b:Nat):Int)) ?_;go_frame;refine Rg.lm 60 (.int .i64 ((k:Nat):Int)) ?_;go_frame;refine Rg.lr 61 (exec_bin (R:=.bool false) .neq _ _ _ rfl rfl rfl (b_neqB _ (decide_eq_false (by omega)))) ?_;go_frame;go_wp2
       go_roundw
       case rel=>exact ⟨k+1,y,_,by go_num,by omega,HKL.out,X,HT,K,KB,GY,ι (by have:=HST.out; rwa [HE.out] at this)⟩
       case measure=>simp [intOf]; have:=HKL.out; omega
      ·have hbN:¬ (b:Int)=(k:Int):=by omega
       rw [Cm.idT_ne hbk] at hv;have HBN:=ι hbn;have UP:=ι (HT.out.some_ k b v HKL.out hbn hv);have CO:=ι (HT.out.out k HKL.out);have CE:=ι (CL.mk (show wr.cell? ⟨Rb k,0+b,none⟩=some (V k b) by rw [Nat.zero_add]; exact HT.out.cell HKL.out hbn) (HT.out.lt HKL.out));clear hbk hv;go_upto_region 14 with (fail);refine wp_region_list ?_;refine Rg.lm 59 (.int .i64 ((b:Nat):Int)) ?_;go_frame;refine Rg.lm 60 (.int .i64 ((k:Nat):Int)) ?_;go_frame;refine Rg.lr 61 (exec_bin (R:=.bool true) .neq _ _ _ rfl rfl rfl (b_neqB _ (decide_eq_true (by omega)))) ?_;go_frame;go_upto_region 15 with (fail);refine wp_region_list ?_;refine Rg.lm 62 (.slice (some ⟨tb,tf,none⟩) n tc) ?_;go_frame;refine Rg.lm 63 (.int .i64 ((k:Nat):Int)) ?_;go_frame;refine Rg.lr 64 (exec_indexS slTable _ _ rfl tb (tf) (n) tc (k) rfl rfl HKL.out) ?_;go_frame;refine Rg.lr 65 (Rg.exec_load (v:=.slice (some ⟨(Rb k),0,none⟩) n n) _ _ rfl ⟨tb,tf+k,none⟩ rfl (Rg.run_loadSl _ _ Tryz.underlying22 CO.out.cell)) ?_;go_frame
       refine Rg.lm 66 (.int .i64 ((b:Nat):Int)) ?_;go_frame;refine Rg.lr 67 (exec_indexS slPerms _ _ rfl (Rb k) (0) (n) n (b) rfl rfl HBN.out) ?_;go_frame;refine Rg.lr 68 (Rg.exec_load (v:=(V k b)) _ _ rfl ⟨(Rb k),0+b,none⟩ rfl (Rg.run_loadSl _ _ Tryz.underlying51 CE.out.cell)) ?_;go_frame;refine Rg.lm 69 (.slice (some ⟨yb,yo,none⟩) n yc) ?_;go_frame;refine list_ask (some 70) rfl rfl _ _ (exec_fn 72 _ _ _ rfl rfl rfl (Wfcl1 _ _)) ?_;refine (kMul_f UP.out X.out GV.out GY.out hn2).mono ?_;rintro e1 w1 ⟨mv,rfl,hmv,hb⟩;replace KB:=ι (Rg.acc KB.out hb);refine ⟨_,rfl,?_⟩;go_frame;replace HT:=ι (HT.out.up hb);replace X:=ι (X.out.up hb);replace UP:=ι (UP.out.up hb);replace CO:=ι (CO.out.up hb);replace CE:=ι (CE.out.up hb);replace K:=ι (K.out.up hb);have MV:=ι hmv;generalize Fup F wr w1=F1 at *;clear hb;refine Rg.la 7 (mv) ?_;go_frame;clear hmv;go_wp2
       go_roundw
       case rel=>exact ⟨k+1,_,_,by go_num,by omega,HKL.out,MV,HT,K,KB,GM,HST⟩
       case measure=>simp [intOf]; have:=HKL.out; omega
   ·obtain rfl:k=n:=by omega
    have hkN:¬ (k:Int)<(k:Int):=by omega
    have HSZ:=ι KB.out.size;go_upto_region 16 with (fail);refine wp_region_list ?_;refine Rg.lm 71 (.slice (some ⟨yb,yo,none⟩) k yc) ?_;go_frame;refine list_ask (some 72) rfl rfl _ _ (exec_fn1 70 _ _ rfl rfl (Wncl3 _ _)) ?_;refine (Own_any _ (Ma.ofN y) wr X.out.np (by rw [Ma.len_ofN,GY.out.2]; omega)).mono ?_;rintro e1 w1 ⟨v2,rfl,hrow,hb⟩;replace KB:=ι (Rg.acc KB.out hb);have HROW:=ι hrow;clear hrow;refine ⟨_,rfl,?_⟩;go_frame;replace HT:=ι (HT.out.up hb);replace X:=ι (X.out.up hb);replace K:=ι (K.out.up hb);generalize Fup F wr w1=F1 at *;clear hb;refine Rg.la 6 (v2) ?_;go_frame;go_wp2;go_ret;exact (show RLPost _ _ _ _ _ _ _ from ⟨_,_,_,rfl,HSZ.out,HROW.out,HLI.out,GY.out,KB.out⟩)

theorem Wocl1 (args:Array Value) (w:World):(callFunc 269 args).run Tryz.prog w=.ok (.enter 269 args) w:=by kernel_rfl
theorem rchain_any {n:Nat} (hn1:1≤n) (hn2:n≤64) {F:Nat→Prop} {tb tf tc:Nat} {w:World} {tr:Tr} {Rb:Nat→Nat} {V:Nat→Nat→Value} (hT:TabAt F tb tf n w tr Rb V) {gs:List Nat→Prop} (hg:∀ s,gs s→Cm.Gd n s) (hok:TabOk n gs tr) (htr:Cm.IsTr n (Cm.Gr n gs) (Cm.idT n tr)) :
  Calls Tryz.prog 200 #[.slice (some ⟨tb,tf,none⟩) n tc] w fun e w'=>∃ ov rv O R,e=.returned (.agg #[.int .i64 ((n:Nat):Int),ov,rv])∧Rg.FRows (fun z=>w.heap.size≤z) w' ov (O.map Ma.ofN)∧FRows2 (fun z=>w.heap.size≤z) w' rv (R.map (List.map Ma.ofN))∧Cm.IsChain n (Cm.Gr n gs) O R∧Below w.heap.size w w':=by
 have K:=ι (Below.refl w.heap.size w);have HT:=ι hT;have HGS:=ι hg;have HH:=ι (Cm.Gr.isG hg);have OK:=ι hok;have HTR:=ι htr;clear hT hg hok htr
 go_enter Tryz.func200,Tryz.ntmps200
 go_upto_region 0 with (fail);refine wp_region_list ?_;have hnew:=Tri.new w (.int .i64 0) (.slice none 0 0) (.slice none 0 0);refine Rg.lr 2 (exec_allocC rfl) ?_;go_frame;have hb:=(Below.refl w.heap.size w).alloc (Nat.le_refl _) (.cells #[.int .i64 0,.slice none 0 0,.slice none 0 0] 54);generalize w.alloc (.cells #[.int .i64 0,.slice none 0 0,.slice none 0 0] 54)=w1 at *;replace HT:=ι (HT.out.below hb);replace K:=ι (Rg.acc K.out hb);clear hb;have FT:=ι hnew;have K1:=ι (Below.refl w1.heap.size w1);have hlo1:=(FT.out.lt);clear hnew;go_upto_region 1 with (fail);refine wp_region_list ?_;refine Rg.lm 8 (.slice (some ⟨tb,tf,none⟩) n tc) ?_;go_frame;refine Rg.lr 9 (exec_len _ _ _ rfl Tryz.underlying213 _ _ _ rfl) ?_;go_frame;refine Rg.lr 10 (exec_buildC1 (d:=((n:Nat):Int)) _ rfl rfl) ?_;go_frame;have hnew:=Tri.new w1 (.int .i64 0) (.slice none 0 0) (.slice none 0 0)
 refine Rg.lr 3 (exec_allocC rfl) ?_;go_frame;have hb:=(Below.refl w1.heap.size w1).alloc (Nat.le_refl _) (.cells #[.int .i64 0,.slice none 0 0,.slice none 0 0] 54);generalize w1.alloc (.cells #[.int .i64 0,.slice none 0 0,.slice none 0 0] 54)=w2 at *;replace K1:=ι (Rg.acc K1.out hb);clear hb;have FC:=ι hnew;refine Rg.list_skip none rfl rfl (Rg.exec_store _ _ _ rfl _ rfl _ rfl (run_storeC _ _ _ _ _ _ _ FC.out)) ?_;go_frame;clear hnew;replace FC:=ι (FC.out.set (.int .i64 ((n:Nat):Int)) (.slice none 0 0) (.slice none 0 0));replace K1:=ι (((K1.out.setCell (p:=⟨w1.heap.size,0,none⟩) (Nat.le_refl _) (.int .i64 ((n:Nat):Int))).setCell (p:=⟨w1.heap.size,1,none⟩) (Nat.le_refl _) (.slice none 0 0)).setCell (p:=⟨w1.heap.size,2,none⟩) (Nat.le_refl _) (.slice none 0 0));generalize (((w2).setCell ⟨w1.heap.size,0,none⟩ (.int .i64 ((n:Nat):Int))).setCell ⟨w1.heap.size,1,none⟩ (.slice none 0 0)).setCell ⟨w1.heap.size,2,none⟩ (.slice none 0 0)=w5 at *
 have CH:=ι (ChR.start FC.out (Nat.le_refl _));clear FC;go_upto_region 2 with (fail);refine wp_region_list ?_;refine Rg.la 4 (.int .i64 ((0:Nat):Int)) ?_;go_frame;have HPC:=ι (Cm.PC.nil n (Cm.Gr n gs) (Cm.idT n tr));go_wp2
 go_loopw [4] (fun iv wr=>∃ (k:Nat) (ov rv:Value) (O:List (List Nat)) (R:List (List (List Nat))),iv=.int .i64 k∧k≤n∧Hid (ChR w1.heap.size wr w1.heap.size (.int .i64 ((n:Nat):Int)) ov rv ov rv (O.map Ma.ofN) (R.map (List.map Ma.ofN)))∧Hid (Below w1.heap.size w1 wr)∧Hid (Cm.PC n (Cm.Gr n gs) (Cm.idT n tr) k O R)) (fun iv _=>n - (intOf iv).toNat)
 case atStart=>exact ⟨0,_,_,[],[],rfl,Nat.zero_le _,CH,K1,HPC⟩
 case round =>
  clear CH K1 HPC;obtain ⟨k,ov,rv,O,R,rfl,hk,CH,K1,HPC⟩:=hrel;have hsO:=CH.out.shapeO;have hsR:=CH.out.shapeR;rw [List.length_map] at hsO hsR;obtain ⟨ova,ovc,rfl⟩:=hsO;obtain ⟨rva,rvc,rfl⟩:=hsR
  by_cases hkl:k<n
  ·have hkN:(k:Int)<(n:Int):=by omega
   have HA2:=ι (orbP_asc tr k n);have HA3:=ι (fun p=>mem_orbL (p:=p) OK.out hkl);have HO1:=ι (Nat.le_trans (orbP_len tr k n) hn2);obtain ⟨l,hl⟩:∃ l,Hid (orbL n tr k=l):=⟨_,ι rfl⟩;replace HA2:Hid (l.Pairwise (· < ·)):=ι (by rw [← hl.out]; exact HA2.out);replace HO1:Hid (l.length≤64):=ι (by rw [← hl.out]; exact HO1.out);rw [hl.out] at HA3;have HO2:=ι (show 1≤l.length from List.length_pos_of_mem ((HA3.out k).2 ⟨_,Cm.idT_self⟩));have HKL:=ι hkl;have HLTS:=ι (show (∀ z,(Value.slice ova O.length ovc).ownBlock=some z→z<wr.heap.size)∧(∀ z,(Value.slice rva R.length rvc).ownBlock=some z→z<wr.heap.size)∧w1.heap.size<wr.heap.size from ⟨fun z e=>(CH.out.lts.1 z e).2,fun z e=>(CH.out.lts.2 z e).2,CH.out.tri.lt⟩);have SZ1:=ι (SZ.mk (Nat.le_refl wr.heap.size));go_upto_region 5 with (fail);refine wp_region_list ?_;refine Rg.lm 17 (.slice (some ⟨tb,tf,none⟩) n tc) ?_;go_frame
   refine Rg.lm 18 (.int .i64 ((k:Nat):Int)) ?_;go_frame;have hszW:=SZ1.out.le;refine list_ask (some 19) rfl rfl _ _ (exec_fn 268 _ _ _ rfl rfl rfl (Wncl1 _ _)) ?_;refine (orbit_any hn1 hn2 (HT.out.below K1.out) (fun i p u e=>tab_gd OK.out e) HKL.out).mono ?_;rintro e1 w11 ⟨v,rfl,hrow,hb⟩;rw [hl.out] at hrow;have hq:=row_of hrow.own (k:=0) (by rw [Ma.len_ofN]; exact HO2.out);rw [Ma.len_ofN] at hq;obtain ⟨sb,sc,u0,rfl,_,_,_⟩:=hq;have HBB:=ι hszW;refine ⟨_,rfl,?_⟩;go_frame;replace CH:=ι (CH.out.below hb);replace SZ1:=ι (SZ1.out.below hb);replace K1:=ι (Rg.acc K1.out hb);clear hb;have R5:=ι hrow;refine Rg.la 5 (.slice (some ⟨sb,0,none⟩) l.length sc) ?_;go_frame;clear hrow;replace HT:=ι (HT.out.below K1.out);replace FT:=ι (FT.out.below K1.out);have K5:=ι (Below.refl w11.heap.size w11);have RP:=ι (RowP.nil w11.heap.size w11);have HRS:=ι (show ∀ j,j<0→Cm.Lst n (fun z=>Cm.St (Cm.Gr n gs) k z∧Cm.ap z k=l.getD j 0) (([]:List (List Nat)).getD j []) from fun j h=>absurd h (Nat.not_lt_zero _))
   go_wp2
   go_loopw [7,6] (fun iv tv wq=>∃ (m:Nat) (rs:List (List Nat)),iv=.int .i64 m∧m≤l.length∧rs.length=m∧Hid (RowP w11.heap.size wq tv (rs.map Ma.ofN))∧Hid (Below w11.heap.size w11 wq)∧Hid (∀ j,j<m→Cm.Lst n (fun z=>Cm.St (Cm.Gr n gs) k z∧Cm.ap z k=l.getD j 0) (rs.getD j []))) (fun iv _ _=>l.length - (intOf iv).toNat)
   case atStart=>exact ⟨0,[],rfl,Nat.zero_le _,rfl,RP,K5,HRS⟩
   case round =>
    clear K5 RP HRS;obtain ⟨m,rs,rfl,hm,hrs,RP,K5,HRS⟩:=hrel
    have hlN:(l.length:Int)≤64:=by have:=HO1.out; omega
    obtain ⟨ta,tc2,rfl⟩:=RP.out.shape
    by_cases hml:m<l.length
    ·have hmN:(m:Int)<(l.length:Int):=by omega
     obtain ⟨p,hp⟩:∃ p:Nat,Hid (p=l[m]):=⟨_,ι rfl⟩
     have hcell:w11.cell? ⟨sb,0+m,none⟩=some (.int .i64 ((p:Nat):Int)):=by
      obtain ⟨g,c,u,e1,e2,e3,_⟩:=row_of R5.out.own (k:=m) (by rw [Ma.len_ofN]; exact hml);simp only [Value.slice.injEq,Option.some.injEq,Addr.mk.injEq] at e1;obtain ⟨⟨rfl,_,_⟩,_,_⟩:=e1;rw [e2,← e3,hp.out];simp [Ma.ofN,List.getElem?_eq_getElem hml]
     have CS:=ι (CL.mk hcell (lt_of_cell hcell));obtain ⟨u,hu⟩:=(HA3.out p).1 (by rw [hp.out]; exact List.getElem_mem hml);have HU:=ι hu;have HML:=ι hml;have HRL:=ι hrs;clear hcell hu hrs;go_upto_region 10 with (fail);refine wp_region_list ?_;refine Rg.lm 26 (.slice ta (rs.map Ma.ofN).length tc2) ?_;go_frame;refine Rg.lm 27 (.slice (some ⟨tb,tf,none⟩) n tc) ?_;go_frame;refine Rg.lm 28 (.int .i64 ((k:Nat):Int)) ?_;go_frame;refine Rg.lm 29 (.slice (some ⟨sb,0,none⟩) l.length sc) ?_;go_frame;refine Rg.lm 30 (.int .i64 ((m:Nat):Int)) ?_;go_frame;refine Rg.lr 31 (exec_indexS slInts _ _ rfl sb (0) (l.length) sc (m) rfl rfl HML.out) ?_;go_frame;refine Rg.lr 32 (Rg.exec_load (v:=.int .i64 ((p:Nat):Int)) _ _ rfl ⟨sb,0+m,none⟩ rfl (run_loadInt ((Below.cell (p:=⟨sb,0+m,none⟩) K5.out CS.out.lt).trans CS.out.cell))) ?_;go_frame;have HLT6:=ι (fun z e=>(RP.out.lt z e).2)
     have HSZ6:=ι K5.out.size;refine list_ask (some 33) rfl rfl _ _ (exec_fn3 269 _ _ _ _ rfl rfl rfl rfl (Wocl1 _ _)) ?_;refine (rleast_any hn1 hn2 (HT.out.below K5.out) HGS.out OK.out HTR.out HKL.out HU.out).mono ?_;rintro e1 w41 ⟨yv,y,B8,rfl,hB8,hrow,hli,hgy,hb⟩;obtain ⟨ca,cc,rfl⟩:=Rg.row_shape hrow;have HROW:=ι hrow;have HLI:=ι hli;have GY:=ι hgy;have HB8:=ι hB8;clear hrow hli hgy hB8;refine ⟨_,rfl,?_⟩;go_frame;replace RP:=ι (RP.out.below hb);replace K5:=ι (Rg.acc K5.out hb);clear hb;refine Rg.lr 34 (Rg.exec_buildSlice _ _ _ rfl (.slice ca (Ma.ofN y).length cc) rfl (run_build1P w41 _ ⟨_,_,_,rfl⟩)) ?_;go_frame;obtain ⟨a9,c9,X9,r1,r2,r3⟩:=RP.out.push K5.out.size HROW.out (by rw [Ma.len_ofN,GY.out.2]; omega) (fun z e=>⟨by have:=(HROW.out.lt z e).1; have:=HSZ6.out; have:=HB8.out; omega,fun e2=>by have:=(HROW.out.lt z e).1; have:=HLT6.out z e2; have:=HB8.out; omega⟩) (by rw [List.length_map,HRL.out]; have:=HO1.out; have:=HML.out; omega) 22
     refine Rg.lr 35 (Rg.exec_append _ _ _ rfl rfl rfl r1) ?_;go_frame;refine Rg.la 6 (.slice a9 ((rs.map Ma.ofN).length+1) c9) ?_;go_frame;have K6:=ι (r3 (Nat.le_refl _) K5.out);have RP2:=ι (show RowP w11.heap.size X9 (.slice a9 ((rs.map Ma.ofN).length+1) c9) ((rs++[y]).map Ma.ofN) by rw [List.map_append]; exact r2);have HLS:=ι (Cm.LI.done HH.out HKL.out ⟨HTR.out.mem k p u HKL.out HU.out,HTR.out.rp.fx k p u (Nat.zero_le _) HKL.out HU.out⟩ HLI.out)
     have HRS2:=ι (show ∀ j,j<m+1→Cm.Lst n (fun z=>Cm.St (Cm.Gr n gs) k z∧Cm.ap z k=l.getD j 0) ((rs++[y]).getD j []) from fun j hj=>by
      have hl:=HRL.out
      by_cases e:j=m
      ·subst e
       have e1:(rs++[y]).getD j []=y:=by
        rw [List.getD_eq_getElem?_getD,List.getElem?_append_right (by omega),hl]; simp
       have e2:l.getD j 0=p:=by
        rw [hp.out,List.getD_eq_getElem?_getD,List.getElem?_eq_getElem HML.out]; rfl
       have e3:Cm.ap u k=p:=HTR.out.rp.at_ k p u (Nat.zero_le _) HKL.out HU.out;rw [e1,e2];have:=HLS.out
       rwa [e3] at this
      ·have e1:(rs++[y]).getD j []=rs.getD j []:=by
        rw [List.getD_eq_getElem?_getD,List.getD_eq_getElem?_getD,List.getElem?_append_left (by omega)]
       rw [e1]
       exact HRS.out j (by omega))
     have HRL2:=ι (show (rs++[y]).length=m+1 by rw [List.length_append,HRL.out]; rfl);clear r1 r2 r3;go_wp2
     go_roundw
     case rel=>exact ⟨m+1,rs++[y],by go_num,HML.out,HRL2.out,RP2,K6,HRS2⟩
     case measure=>simp [intOf]; have:=HML.out; omega
    ·obtain rfl:m=l.length:=by omega
     have hmN:¬ (l.length:Int)<(l.length:Int):=by omega
     replace CH:=ι (CH.out.below K5.out);replace K1:=ι (Rg.acc K1.out K5.out);have SZ5:=SZ1.out.le;replace SZ1:=ι (SZ1.out.below K5.out);have hR5:=R5.out.below K5.out
     have PD:=ι (Pend.mk CH.out (hR5.fi (by rw [Ma.len_ofN]; omega) (G:=GS2 w1.heap.size wr w1.heap.size (Value.slice ova O.length ovc) (Value.slice rva R.length rvc)) (fun z g1 g2=>⟨by have:=HBB.out; have:=HLTS.out.2.2; omega,g2,fun e=>by have:=HBB.out; have:=HLTS.out.1 z e; omega,fun e=>by have:=HBB.out; have:=HLTS.out.2.1 z e; omega,by have:=HBB.out; have:=HLTS.out.2.2; omega⟩))
      (RP.out.frows (by rw [List.length_map,hrs]; omega) (G:=GS2 w1.heap.size wr w1.heap.size (Value.slice ova O.length ovc) (Value.slice rva R.length rvc)) (fun z g1 g2=>⟨by have:=HLTS.out.2.2; omega,g2,fun e=>by have:=HLTS.out.1 z e; omega,fun e=>by have:=HLTS.out.2.1 z e; omega,by have:=HLTS.out.2.2; omega⟩)))
     have HRSL:=ι hrs;have HOL:=ι (show (O.map Ma.ofN).length<1000000 by rw [List.length_map,HPC.out.lenO]; omega);have HRLn:=ι (show (R.map (List.map Ma.ofN)).length<1000000 by rw [List.length_map,HPC.out.lenR]; omega);clear SZ5 hR5 CH RP R5 FT hrs;go_upto_region 11 with (fail);have hV1:Below wr.heap.size wr wr.drew:=(Below.refl _ _).drew;replace PD:=ι (PD.out.below hV1);replace K1:=ι (Rg.acc K1.out hV1);replace SZ1:=ι (SZ1.out.below hV1);clear hV1;have hV0:Below wr.heap.size wr wr.drew:=(Below.refl _ _).drew;generalize Fup F wr wr.drew=F1 at *;clear hV0;refine Rg.Any.begin (S:=Rg.Both 11 (fun W:World=>Tri W w1.heap.size (.int .i64 ((n:Nat):Int)) (Value.slice ova O.length ovc) (Value.slice rva R.length rvc)∧Below w1.heap.size w1 W) (fun _=>True)) mix ?_;generalize wr.drew=w61 at *;have hS:∀ (l:Array Bool) W,(fun W:World=>Tri W w1.heap.size (.int .i64 ((n:Nat):Int)) (Value.slice ova O.length ovc) (Value.slice rva R.length rvc)∧Below w1.heap.size w1 W) W→Rg.Both 11 (fun W:World=>Tri W w1.heap.size (.int .i64 ((n:Nat):Int)) (Value.slice ova O.length ovc) (Value.slice rva R.length rvc)∧Below w1.heap.size w1 W) (fun _=>True) l W:=fun l W h=>⟨.inr h,trivial⟩
     have hS2:∀ (l:Array Bool) W,l.getD 11 false=true→Rg.Both 11 (fun W:World=>Tri W w1.heap.size (.int .i64 ((n:Nat):Int)) (Value.slice ova O.length ovc) (Value.slice rva R.length rvc)∧Below w1.heap.size w1 W) (fun _=>True) l W:=fun l W h=>⟨.inl h,trivial⟩;have hI:(fun W:World=>Tri W w1.heap.size (.int .i64 ((n:Nat):Int)) (Value.slice ova O.length ovc) (Value.slice rva R.length rvc)∧Below w1.heap.size w1 W) w61:=⟨PD.out.ch.tri,K1.out⟩;refine Rg.tg 0 11 (.pointer (some ⟨w1.heap.size,1,none⟩)) 36 rfl rfl (.inl ⟨rfl,fun w _=>exec_field _ rfl rfl (chF1 _ _)⟩) (hS _ _ hI) ?_;go_frame;refine Rg.Any.takeT (i:=1) (t:=11) (v:=.slice ova O.length ovc) (some 37) rfl rfl (by kernel_rfl) (by kernel_rfl) (by kernel_rfl) (fun _ _ _ h=>h) rfl (by kernel_rfl) rfl (Rg.yields_cell _ _ rfl rfl ⟨w1.heap.size,1,none⟩ rfl (fun W hW=>Rg.run_loadSl _ _ Tryz.underlying27 hW.1.c1)) (hS _ _ hI) ?_;go_frame
     refine Rg.tm 2 11 (.slice (some ⟨sb,0,none⟩) l.length sc) 38 (hS _ _ hI) ?_;go_frame;refine Rg.tg 5 11 (.pointer (some ⟨w1.heap.size,2,none⟩)) 41 rfl rfl (.inl ⟨rfl,fun w _=>exec_field _ rfl rfl (chF2 _ _)⟩) (hS _ _ hI) ?_;go_frame;refine Rg.Any.takeT (i:=6) (t:=11) (v:=.slice rva R.length rvc) (some 42) rfl rfl (by kernel_rfl) (by kernel_rfl) (by kernel_rfl) (fun _ _ _ h=>h) rfl (by kernel_rfl) rfl (Rg.yields_cell _ _ rfl rfl ⟨w1.heap.size,2,none⟩ rfl (fun W hW=>Rg.run_loadSl _ _ Tryz.underlying52 hW.1.c2)) (hS _ _ hI) ?_;go_frame;refine Rg.tm 7 11 (.slice ta (rs.map Ma.ofN).length tc2) 43 (hS _ _ hI) ?_;go_frame
     refine Rg.Any.c2f1q (i:=3) (k:=4) (j:=8) (q:=10) (di:=39) (dk:=40) (dj:=44) (dq:=46) (vq:=.pointer (some ⟨w1.heap.size,1,none⟩)) (I:=fun W=>(fun W:World=>Tri W w1.heap.size (.int .i64 ((n:Nat):Int)) (Value.slice ova O.length ovc) (Value.slice rva R.length rvc)∧Below w1.heap.size w1 W) W∧w61.heap.size≤W.heap.size) (R0:=fun W=>Pend w1.heap.size W w1.heap.size (.int .i64 ((n:Nat):Int)) (Value.slice ova O.length ovc) (Value.slice rva R.length rvc) (Value.slice ova O.length ovc) (Value.slice rva R.length rvc) (O.map Ma.ofN) (R.map (List.map Ma.ofN)) (.slice (some ⟨sb,0,none⟩) l.length sc) (Ma.ofN l) (.slice ta (rs.map Ma.ofN).length tc2) (rs.map Ma.ofN)) (Ri:=fun u W=>Rg.BlkF w61.heap.size [.slice (some ⟨sb,0,none⟩) l.length sc] u W) (Rk:=fun x W=>ChR w1.heap.size W w1.heap.size (.int .i64 ((n:Nat):Int)) (Value.slice ova O.length ovc) (Value.slice rva R.length rvc) x (Value.slice rva R.length rvc) (O.map Ma.ofN++[Ma.ofN l]) (R.map (List.map Ma.ofN))∧Rg.FRows (GS2 w1.heap.size W w1.heap.size x (Value.slice rva R.length rvc)) W (.slice ta (rs.map Ma.ofN).length tc2) (rs.map Ma.ofN)∧∃ a c,x=.slice a (O.length+1) c) (Rj:=fun v W=>Rg.BlkF w61.heap.size [.slice ta (rs.map Ma.ofN).length tc2] v W) (fun l W h=>hS l W h.1)
      (by decide) (by decide) (by decide) (by decide) (by decide) (by decide) (by kernel_rfl) (by kernel_rfl) (by kernel_rfl) (by kernel_rfl) (by kernel_rfl) ?_ ?_
      (fun _ _ hb h=>h.below hb) (fun _ _ _ hb h=>h.below hb) (fun _ _ _ hb h=>⟨h.1.below hb,frows_below h.2.1 hb,h.2.2⟩) (fun _ _ _ hb h=>h.below hb) ?_ ?_ ?_ ⟨hI,Nat.le_refl _⟩ (PD.out) ?_
     ·intro u x W m hs h
      exact Rg.Any.takeG (i:=10) (t:=11) (v:=.pointer (some ⟨w1.heap.size,1,none⟩)) (some 46) rfl rfl (by kernel_rfl) (by kernel_rfl) (by kernel_rfl) (fun _ _ _ h=>h) rfl (.inl ⟨rfl,fun w _=>exec_field _ rfl rfl (chF1 _ _)⟩) hs h
     ·intro u v x W m hs h
      exact Rg.Any.takeG (i:=10) (t:=11) (v:=.pointer (some ⟨w1.heap.size,1,none⟩)) (some 46) rfl rfl (by kernel_rfl) (by kernel_rfl) (by kernel_rfl) (fun _ _ _ h=>h) rfl (.inl ⟨rfl,fun w _=>exec_field _ rfl rfl (chF1 _ _)⟩) hs h
     ·intro b hb W hW
      have hbA:Below W.heap.size W (W.alloc (.cells #[.slice (some ⟨sb,0,none⟩) l.length sc] 36)):=(Below.refl _ _).alloc (Nat.le_refl _) _
      exact Rg.doesRun rfl rfl (by rcases hb with rfl | ⟨u,rfl⟩ <;> rfl) (Rg.exec_buildSlice _ _ _ rfl (.slice (some ⟨sb,0,none⟩) l.length sc) (by rcases hb with rfl | ⟨u,rfl⟩ <;> rfl) (run_build1L W _ ⟨_,_,_,rfl⟩)) ⟨⟨⟨hW.1.1.below hbA,Rg.acc hW.1.2 hbA⟩,by simp; have:=hW.2; omega⟩,Rg.BlkF.new W [.slice (some ⟨sb,0,none⟩) l.length sc] 36 hW.2,hbA⟩
     ·intro b hb W hW
      have hbA:Below W.heap.size W (W.alloc (.cells #[.slice ta (rs.map Ma.ofN).length tc2] 22)):=(Below.refl _ _).alloc (Nat.le_refl _) _
      exact Rg.doesRun rfl rfl (by rcases hb with rfl | ⟨u,rfl⟩ | ⟨u,v,rfl⟩ <;> rfl) (Rg.exec_buildSlice _ _ _ rfl (.slice ta (rs.map Ma.ofN).length tc2) (by rcases hb with rfl | ⟨u,rfl⟩ | ⟨u,v,rfl⟩ <;> rfl) (run_build1PP W _ ⟨_,_,_,rfl⟩)) ⟨⟨⟨hW.1.1.below hbA,Rg.acc hW.1.2 hbA⟩,by simp; have:=hW.2; omega⟩,Rg.BlkF.new W [.slice ta (rs.map Ma.ofN).length tc2] 22 hW.2,hbA⟩
     ·intro u b hb W hW h0 hu
      obtain ⟨pu,rfl,hp0,hp1,hp2⟩:=hu;obtain ⟨a2,c2,X,r1,r2,r3,r4⟩:=h0.ch.pushO hW.1.2.size h0.f5 rfl HOL.out (hp2 0 (by simp)) 27;have hkX:=Rg.Kp.of_grown r3 (M:=fun z=>(Value.slice ova O.length ovc).ownBlock=some z) (fun _ e=>e)
      exact Rg.doesRun rfl rfl (by rcases hb with rfl | ⟨v,rfl⟩ <;> rfl) (Rg.exec_append _ _ _ rfl (by rcases hb with rfl | ⟨v,rfl⟩ <;> rfl) (by rcases hb with rfl | ⟨v,rfl⟩ <;> rfl) r1) ⟨⟨⟨r2.tri,hW.1.2.grown r3 hW.1.2.size (fun j e=>(h0.ch.lts.1 j e).1)⟩,Nat.le_trans hW.2 r3.size⟩,⟨r2,FRows.mono (FRows.kp h0.f6 hkX (fun z g e=>g.2.2.1 e)) r4,_,_,by rw [List.length_map]⟩,fun v hv=>hv.grown r3 (fun j e=>Nat.lt_of_lt_of_le (HLTS.out.1 j e) SZ1.out.le)⟩
     rintro w62 fu fx fv hb hk hj;have hI2_f:=hb.1;have hVsz:=hb.2;clear hb hI;go_frame;have FK:=ι hk;have FJ:=ι hj;obtain ⟨pj,hje,hj0,hj1,hj2⟩:=FJ.out;subst hje;obtain ⟨a2,c2,hfx⟩:=FK.out.2.2;subst hfx;obtain ⟨a3,c3,X3,q1,q2,q3⟩:=FK.out.1.pushR hI2_f.2.size FK.out.2.1 rfl HRLn.out (hj2 0 (by simp)) 52;rw [List.length_map] at q1 q2;have hI3_m:=(show _∧_ from ⟨q2.tri,hI2_f.2.grown q3 hI2_f.2.size (fun j e=>(FK.out.1.lts.2 j e).1)⟩);refine Rg.Any.one (i:=9) (by kernel_rfl) (Rg.Any.run (some 45) rfl rfl rfl (Rg.exec_append _ _ _ rfl rfl rfl q1) (hS _ _ hI3_m) ?_);go_frame;have KX:=ι hI3_m.2;refine Rg.Any.one (i:=11) (by kernel_rfl) (Rg.Any.runSkip none rfl rfl rfl (Rg.exec_store _ _ _ rfl _ rfl _ rfl (Rg.run_storeSl _ infoIntss q2.tri.c1 q2.tri.f1)) (hS2 _ _ rfl) ?_);go_frame;refine Rg.tg 12 11 (.pointer (some ⟨w1.heap.size,2,none⟩)) 47 rfl rfl (.inl ⟨rfl,fun w _=>exec_field _ rfl rfl (chF2 _ _)⟩) (hS2 _ _ rfl) ?_;go_frame
     refine Rg.Any.one (i:=13) (by kernel_rfl) (Rg.Any.runSkip none rfl rfl rfl (Rg.exec_store _ _ _ rfl _ rfl _ rfl (Rg.run_storeSl _ infoPermss (q2.tri.set1 _).c2 (q2.tri.set1 _).f2)) (hS2 _ _ rfl) ?_);go_frame;refine Rg.Any.done (by kernel_rfl) ?_ _;clear hS2;clear hS hI3_m;have hst:=q2.store (.slice a2 (O.length+1) c2) (.slice a3 (R.length+1) c3);have hkk:=(KX.out.setCell (p:=⟨w1.heap.size,1,none⟩) (Nat.le_refl _) (.slice a2 (O.length+1) c2)).setCell (p:=⟨w1.heap.size,2,none⟩) (Nat.le_refl _) (.slice a3 (R.length+1) c3);generalize (X3.setCell ⟨w1.heap.size,1,none⟩ (.slice a2 (O.length+1) c2)).setCell ⟨w1.heap.size,2,none⟩ (.slice a3 (R.length+1) c3)=w99 at *;have CH2:=ι (show ChR w1.heap.size w99 w1.heap.size (.int .i64 ((n:Nat):Int)) (.slice a2 (O.length+1) c2) (.slice a3 (R.length+1) c3) (.slice a2 (O.length+1) c2) (.slice a3 (R.length+1) c3) ((O++[l]).map Ma.ofN) ((R++[rs]).map (List.map Ma.ofN)) by rw [List.map_append,List.map_append]; exact hst)
     have K2:=ι hkk;have HP2:=ι (HPC.out.snoc HA2.out (fun p=>HA3.out p) HRSL.out HRS.out);clear hst hkk q1 q2 q3 KX FK FJ PD;go_wp2
     go_roundw
     case rel=>exact ⟨k+1,_,_,O++[l],R++[rs],by go_num,HKL.out,CH2,K2,HP2⟩
     case measure=>simp [intOf]; have:=HKL.out; omega
  ·obtain rfl:k=n:=by omega
   have hkN:¬ (k:Int)<(k:Int):=by omega
   have TT:=ι (FT.out.below K1.out);go_upto_region 12 with (fail);refine wp_region_list ?_;refine Rg.lr 48 (Rg.exec_load _ _ rfl ⟨w1.heap.size,0,none⟩ rfl (run_loadC CH.out.tri)) ?_;go_frame;refine Rg.list_skip none rfl rfl (Rg.exec_store _ _ _ rfl _ rfl _ rfl (run_storeC _ _ _ _ _ _ _ TT.out)) ?_;go_frame;have hkt:=Rg.Kp.trans (Rg.Kp.trans (Rg.Kp.of_setCell (M:=fun z=>z=w.heap.size) (w:=wr) (a:=⟨w.heap.size,0,none⟩) (v:=.int .i64 ((k:Nat):Int)) rfl) (Rg.Kp.of_setCell (M:=fun z=>z=w.heap.size) (a:=⟨w.heap.size,1,none⟩) (v:=(Value.slice ova O.length ovc)) rfl) (fun _ _ e=>e)) (Rg.Kp.of_setCell (M:=fun z=>z=w.heap.size) (a:=⟨w.heap.size,2,none⟩) (v:=(Value.slice rva R.length rvc)) rfl) (fun _ _ e=>e);have hch:=CH.out.kp hkt (fun z e=>by rw [e]; exact hlo1);have htt:=TT.out.set (.int .i64 ((k:Nat):Int)) (Value.slice ova O.length ovc) (Value.slice rva R.length rvc)
   have hkf:=((((K.out.trans (K1.out.mono K.out.size)).setCell (p:=⟨w.heap.size,0,none⟩) (Nat.le_refl _) (.int .i64 ((k:Nat):Int))).setCell (p:=⟨w.heap.size,1,none⟩) (Nat.le_refl _) (Value.slice ova O.length ovc)).setCell (p:=⟨w.heap.size,2,none⟩) (Nat.le_refl _) (Value.slice rva R.length rvc));have hfin:=HPC.out.isChain HTR.out
   have hfr2:∀ (X:World) (c0 c1 c2 a b:Value),ChR w1.heap.size X w1.heap.size c0 c1 c2 a b (O.map Ma.ofN) (R.map (List.map Ma.ofN))→FRows2 (fun z=>w.heap.size≤z) X b (R.map (List.map Ma.ofN)):=fun _ _ _ _ _ _ h=>by
    obtain ⟨us,h1,h2⟩:=h.frR (by rw [List.length_map,HPC.out.lenR]; omega);exact ⟨us,h1.mono (fun z hz=>by omega),FElts2.mono h2 (fun z hz=>by omega)⟩
   go_wp2;exact bodyPost_ret (results_cellC rfl _ rfl htt) rfl ⟨_,_,rfl,O,FRows.mono (hch.frO (by rw [List.length_map,HPC.out.lenO]; omega)) (fun z hz=>by omega),R,hfr2 _ _ _ _ _ _ hch,hfin,hkf⟩
end Go.Proofs.YthehbckogieimaaGreat

namespace Go.Proofs.YthehbckogieimaaGreat
open Go.RowKit
open Go.Proofs
open Go.Proofs.Ob
open Go.Proofs.Cm (Tr TabOk)
attribute [local irreducible] Go.Calls Go.wpList
theorem Wpcl0 (args:Array Value) (w:World):(callFunc 119 args).run Tryz.prog w=.ok (.enter 119 args) w:=by kernel_rfl
theorem Wpcl1 (args:Array Value) (w:World):(callFunc 197 args).run Tryz.prog w=.ok (.enter 197 args) w:=by kernel_rfl
theorem Wpcl3 (args:Array Value) (w:World):(callFunc 199 args).run Tryz.prog w=.ok (.enter 199 args) w:=by kernel_rfl
theorem Wpcl4 (args:Array Value) (w:World):(callFunc 200 args).run Tryz.prog w=.ok (.enter 200 args) w:=by kernel_rfl
theorem FRows2.mono {F F':Nat→Prop} {w:World} {v:Value} {lll:List (List (List Int))} (h:FRows2 F w v lll) (hF:∀ k,F k→F' k):FRows2 F' w v lll:=by
 obtain ⟨us,h1,h2⟩:=h;exact ⟨us,h1.mono hF,FElts2.mono h2 hF⟩
def ChIsF (B:Nat) (w:World) (cv:Value) (n:Nat) (gs:List (List Nat)):Prop:=∃ ov rv O R,cv=.agg #[.int .i64 ((n:Nat):Int),ov,rv]∧Rg.FRows (fun z=>B≤z) w ov (O.map Ma.ofN)∧FRows2 (fun z=>B≤z) w rv (R.map (List.map Ma.ofN))∧Cm.IsChain n (Cm.Gr n (·∈gs)) O R
def ChAnsF (B:Nat) (w:World) (d:Int) (ll:List (List Int)) (cv:Value) (c:Int):Prop:=(c≠0∧cv=zeroC)∨(c=0∧∃ n gs,d=((n:Nat):Int)∧ll=gs.map Ma.ofN∧1≤n∧n≤64∧ChIsF B w cv n gs)
theorem ChAnsF.kp {B:Nat} {M:Nat→Prop} {w w':World} {d:Int} {ll:List (List Int)} {cv:Value} {c:Int} (h:ChAnsF B w d ll cv c) (hk:Rg.Kp M w w') (hM:∀ z,M z→z<B):ChAnsF B w' d ll cv c:=by
 rcases h with h | ⟨h0,n,gs,h1,h2,h3,h4,ov,rv,O,R,h5,h6,h7,h8⟩
 ·exact .inl h
 ·exact .inr ⟨h0,n,gs,h1,h2,h3,h4,ov,rv,O,R,h5,FRows.kp h6 hk (fun z g e=>by have:=hM z e; omega),h7.kp hk (fun z g e=>by have:=hM z e; omega),h8⟩
theorem ChAnsF.ans {B:Nat} {w:World} {d:Int} {ll:List (List Int)} {cv:Value} {c:Int} (h:ChAnsF B w d ll cv c):ChAns w d ll cv c:=by
 rcases h with h | ⟨h0,n,gs,h1,h2,h3,h4,ov,rv,O,R,h5,h6,h7,h8⟩
 ·exact .inl h
 ·exact .inr ⟨h0,n,gs,h1,h2,h3,h4,ov,rv,O,R,h5,FRows.rows h6,h7.rows,h8⟩
theorem ChAns.shape {w:World} {d:Int} {ll:List (List Int)} {cv:Value} {c:Int} (h:ChAns w d ll cv c):∃ e a n k a' n' k',cv=.agg #[.int .i64 e,.slice a n k,.slice a' n' k']:=by
 rcases h with ⟨_,rfl⟩ | ⟨h0,n,gs,h1,h2,h3,h4,ov,rv,O,R,h5,h6,h7,h8⟩
 ·exact ⟨_,_,_,_,_,_,_,rfl⟩
 ·obtain ⟨oa,oc,rfl,_⟩:=h6.shape
  obtain ⟨ra,rc,rfl⟩:=h7.shape;exact ⟨_,_,_,_,_,_,_,h5⟩
theorem GS.kg {F F':Nat→Prop} {w w':World} {v:Value} {gs:List (List Nat)} (h:GS F w v gs) (hk:KG F w F' w'):GS F' w' v gs:=by
 obtain ⟨a,c,e,h1⟩:=h;refine ⟨a,c,e,fun h0=>?_⟩;obtain ⟨b,o,e2,h2⟩:=h1 h0;refine ⟨b,o,e2,fun k hk2=>?_⟩;obtain ⟨u,h3,h4⟩:=h2 k hk2;exact ⟨u,h3.kg hk,h4.kg hk⟩
theorem GS.at {F:Nat→Prop} {w:World} {b o n c:Nat} {gs:List (List Nat)} (h:GS F w (.slice (some ⟨b,o,none⟩) n c) gs) {k:Nat} (hk:k<gs.length):∃ u,CF F w b (o+k) u∧FP F w u gs[k]:=by
 obtain ⟨a,c',e,h1⟩:=h;obtain ⟨b',o',e2,h2⟩:=h1 (by omega)
 injection e with e3 _ _
 rw [e2] at e3;simp only [Option.some.injEq,Addr.mk.injEq,and_true] at e3;obtain ⟨rfl,rfl⟩:=e3;exact h2 k hk
theorem empty_b {n:Nat} (hn1:1≤n) (hn2:n≤64) (w:World) :
  Calls Tryz.prog 197 #[.int .i64 ((n:Nat):Int)] w fun e w'=>∃ tb c F Rb,e=.returned (.slice (some ⟨tb,0,none⟩) n c)∧KG (fun k=>k<w.heap.size) w F w'∧TabAt F tb 0 n w' (fun _ _=>none) Rb (fun _ _=>.slice none 0 0)∧Below w.heap.size w w':=by
 refine (empty_any hn1 hn2 w).mono ?_;rintro e w' ⟨tb,c,F,Rb,rfl,h1,h2⟩;exact ⟨tb,c,F,Rb,rfl,h1,h2,h1.kf.below (Nat.le_refl _) (fun _ h=>h)⟩
theorem rMake_any (gv:Value) (d:Int) (ll:List (List Int)) (w:World) (h:Rg.Rows w gv ll) :
  Calls Tryz.prog 120 #[.int .i64 d,gv] w fun e w'=>∃ cv,e=.returned (.tuple #[cv,.int .i64 (mkchk d ll)])∧ChAnsF w.heap.size w' d ll cv (mkchk d ll)∧Below w.heap.size w w':=by
 obtain ⟨ga,gc,rfl,hcap,hbig,_,hgs⟩:=h.shape;have G0:=ι h;have HGS:=ι hgs;have K:=ι (Below.refl w.heap.size w);clear h hgs hcap
 go_enter Tryz.func120,Tryz.ntmps120
 go_upto_region 0 with (fail);refine wp_region_list ?_;have hnew:=Tri.new w (.int .i64 0) (.slice none 0 0) (.slice none 0 0);refine Rg.lr 4 (exec_allocC rfl) ?_;go_frame;have hb:=(Below.refl w.heap.size w).alloc (Nat.le_refl _) (.cells #[.int .i64 0,.slice none 0 0,.slice none 0 0] 54);generalize w.alloc (.cells #[.int .i64 0,.slice none 0 0,.slice none 0 0] 54)=w1 at *;replace G0:=ι (G0.out.below hb);replace K:=ι (Rg.acc K.out hb);clear hb;have FT:=ι hnew;refine Rg.la 5 (.int .i64 ((0:Nat):Int)) ?_;go_frame;clear hnew;have K1:=ι (Below.refl w1.heap.size w1);have KB:=K;clear K;have hlo:=FT.out.lt
 by_cases hd1:d<1
 ·have HC:=ι (show mkchk d ll=2 by unfold mkchk; rw [if_neg (by omega)])
  go_upto_region 1 with (fail);refine wp_region_list ?_;refine Rg.lm 10 (.int .i64 d) ?_;go_frame;refine Rg.lr 11 (exec_bin (R:=.bool true) .lss _ _ _ rfl rfl rfl (b_lss _ (decide_eq_true (by omega)))) ?_;go_frame;refine Rg.lm 12 (.bool true) ?_;go_frame;refine listW_pass (some 13) (by kernel_rfl) rfl ?_;go_frame;refine listW_pass (some 14) (by kernel_rfl) rfl ?_;go_frame;refine Rg.lr 15 (exec_pickT (v:=.bool true) _ _ _ rfl rfl rfl) ?_;go_frame;have FT2:=ι (FT.out.below K1.out);have KX:=ι (KB.out.trans (K1.out.mono KB.out.size));go_upto_region 2 with (fail);refine wp_region_list ?_;refine Rg.lr 16 (exec_buildC0 rfl) ?_;go_frame;refine Rg.list_skip none rfl rfl (Rg.exec_store _ _ _ rfl _ rfl _ rfl (run_storeC _ _ _ _ _ _ _ FT2.out)) ?_;go_frame;refine Rg.la 5 (.int .i64 ((2:Nat):Int)) ?_;go_frame;have hfz:=fin_zero FT2.out KX.out (Nat.le_refl _);generalize ((w1.setCell ⟨w.heap.size,0,none⟩ (.int .i64 0)).setCell ⟨w.heap.size,1,none⟩ (.slice none 0 0)).setCell ⟨w.heap.size,2,none⟩ (.slice none 0 0)=w99 at *
  have HFI:=ι (show ∃ cv,Ending.returned (.tuple #[zeroC,.int .i64 (2)])=.returned (.tuple #[cv,.int .i64 (mkchk d ll)])∧ChAnsF w.heap.size w99 d ll cv (mkchk d ll)∧Below w.heap.size w w99 from
   ⟨_,by rw [HC.out],.inl ⟨by rw [HC.out]; decide,rfl⟩,hfz.2⟩)
  have HTT:=ι hfz.1;clear hfz;go_wp2;exact bodyPost_ret (results_cellC2 (p:=4) (u:=5) rfl _ rfl rfl HTT.out) rfl HFI.out
 by_cases hd2:64<d
 ·have HC:=ι (show mkchk d ll=2 by unfold mkchk; rw [if_neg (by omega)])
  go_upto_region 1 with (fail);refine wp_region_list ?_;refine Rg.lm 10 (.int .i64 d) ?_;go_frame;refine Rg.lr 11 (exec_bin (R:=.bool false) .lss _ _ _ rfl rfl rfl (b_lss _ (decide_eq_false (by omega)))) ?_;go_frame;refine Rg.lm 12 (.bool false) ?_;go_frame;refine listW_run (some 13) rfl rfl (Rg.xm (.int .i64 d) _ rfl rfl) ?_;go_frame;refine listW_run (some 14) rfl rfl (exec_bin (R:=.bool true) .gtr _ _ _ rfl rfl rfl (b_gtr _ (decide_eq_true (by omega)))) ?_;go_frame;refine Rg.lr 15 (exec_pickF (v:=.bool true) _ _ _ rfl rfl rfl) ?_;go_frame;have FT2:=ι (FT.out.below K1.out);have KX:=ι (KB.out.trans (K1.out.mono KB.out.size));go_upto_region 2 with (fail);refine wp_region_list ?_;refine Rg.lr 16 (exec_buildC0 rfl) ?_;go_frame;refine Rg.list_skip none rfl rfl (Rg.exec_store _ _ _ rfl _ rfl _ rfl (run_storeC _ _ _ _ _ _ _ FT2.out)) ?_;go_frame;refine Rg.la 5 (.int .i64 ((2:Nat):Int)) ?_;go_frame
  have hfz:=fin_zero FT2.out KX.out (Nat.le_refl _);generalize ((w1.setCell ⟨w.heap.size,0,none⟩ (.int .i64 0)).setCell ⟨w.heap.size,1,none⟩ (.slice none 0 0)).setCell ⟨w.heap.size,2,none⟩ (.slice none 0 0)=w99 at *
  have HFI:=ι (show ∃ cv,Ending.returned (.tuple #[zeroC,.int .i64 (2)])=.returned (.tuple #[cv,.int .i64 (mkchk d ll)])∧ChAnsF w.heap.size w99 d ll cv (mkchk d ll)∧Below w.heap.size w w99 from
   ⟨_,by rw [HC.out],.inl ⟨by rw [HC.out]; decide,rfl⟩,hfz.2⟩)
  have HTT:=ι hfz.1;clear hfz;go_wp2;exact bodyPost_ret (results_cellC2 (p:=4) (u:=5) rfl _ rfl rfl HTT.out) rfl HFI.out
 have hd3:1≤d∧d≤64:=by omega
 go_upto_region 1 with (fail);refine wp_region_list ?_;refine Rg.lm 10 (.int .i64 d) ?_;go_frame;refine Rg.lr 11 (exec_bin (R:=.bool false) .lss _ _ _ rfl rfl rfl (b_lss _ (decide_eq_false (by omega)))) ?_;go_frame;refine Rg.lm 12 (.bool false) ?_;go_frame;refine listW_run (some 13) rfl rfl (Rg.xm (.int .i64 d) _ rfl rfl) ?_;go_frame;refine listW_run (some 14) rfl rfl (exec_bin (R:=.bool false) .gtr _ _ _ rfl rfl rfl (b_gtr _ (decide_eq_false (by omega)))) ?_;go_frame;refine Rg.lr 15 (exec_pickF (v:=.bool false) _ _ _ rfl rfl rfl) ?_;go_frame
 by_cases hg1:4096<ll.length
 ·have HC:=ι (show mkchk d ll=4 by unfold mkchk; rw [if_pos hd3,if_neg (by omega)])
  go_upto_region 3 with (fail);refine wp_region_list ?_;refine Rg.lm 17 (.slice ga ll.length gc) ?_;go_frame;refine Rg.lr 18 (exec_len _ _ _ rfl Tryz.underlying22 _ _ _ rfl) ?_;go_frame;refine Rg.lr 19 (exec_bin (R:=.bool true) .gtr _ _ _ rfl rfl rfl (b_gtr _ (decide_eq_true (by omega)))) ?_;go_frame;have FT2:=ι (FT.out.below K1.out);have KX:=ι (KB.out.trans (K1.out.mono KB.out.size));go_upto_region 4 with (fail);refine wp_region_list ?_;refine Rg.lr 20 (exec_buildC0 rfl) ?_;go_frame;refine Rg.list_skip none rfl rfl (Rg.exec_store _ _ _ rfl _ rfl _ rfl (run_storeC _ _ _ _ _ _ _ FT2.out)) ?_;go_frame;refine Rg.la 5 (.int .i64 ((4:Nat):Int)) ?_;go_frame;have hfz:=fin_zero FT2.out KX.out (Nat.le_refl _);generalize ((w1.setCell ⟨w.heap.size,0,none⟩ (.int .i64 0)).setCell ⟨w.heap.size,1,none⟩ (.slice none 0 0)).setCell ⟨w.heap.size,2,none⟩ (.slice none 0 0)=w99 at *
  have HFI:=ι (show ∃ cv,Ending.returned (.tuple #[zeroC,.int .i64 (4)])=.returned (.tuple #[cv,.int .i64 (mkchk d ll)])∧ChAnsF w.heap.size w99 d ll cv (mkchk d ll)∧Below w.heap.size w w99 from
   ⟨_,by rw [HC.out],.inl ⟨by rw [HC.out]; decide,rfl⟩,hfz.2⟩)
  have HTT:=ι hfz.1;clear hfz;go_wp2;exact bodyPost_ret (results_cellC2 (p:=4) (u:=5) rfl _ rfl rfl HTT.out) rfl HFI.out
 have HC0:=ι (show mkchk d ll=Ma.gck d ll by unfold mkchk; rw [if_pos hd3,if_pos (by omega)]);have HG0:=ι (show Ma.gck d (ll.drop 0)=Ma.gck d ll by rw [List.drop_zero]);go_upto_region 3 with (fail);refine wp_region_list ?_;refine Rg.lm 17 (.slice ga ll.length gc) ?_;go_frame;refine Rg.lr 18 (exec_len _ _ _ rfl Tryz.underlying22 _ _ _ rfl) ?_;go_frame;refine Rg.lr 19 (exec_bin (R:=.bool false) .gtr _ _ _ rfl rfl rfl (b_gtr _ (decide_eq_false (by omega)))) ?_;go_frame;go_wp2
 go_loopw [6] (fun kv wr=>∃ k:Nat,kv=.int .i64 k∧k≤ll.length∧Hid (Below w1.heap.size w1 wr)∧Hid (Ma.gck d (ll.drop k)=Ma.gck d ll)) (fun kv _=>ll.length - (intOf kv).toNat)
 case atStart=>exact ⟨0,rfl,Nat.zero_le _,K1,HG0⟩
 case round =>
  clear K1 HG0;obtain ⟨k,rfl,hk,K1,HG0⟩:=hrel
  by_cases hkl:k<ll.length
  ·have hkN:(k:Int)<(ll.length:Int):=by omega
   have hgs:=HGS.out;obtain ⟨gb,go,rfl,hgb,hgk⟩:=hgs (by omega);obtain ⟨u,hcu,hxu⟩:=hgk k hkl;obtain ⟨x,hx⟩:∃ x,Hid (ll[k]=x):=⟨_,ι rfl⟩;rw [hx.out] at hxu;have CU:=ι (CL.mk ((KB.out.cell (p:=⟨gb,go+k,none⟩) hgb).trans hcu) (Nat.lt_of_lt_of_le hgb KB.out.size));have XU:=ι (Rg.Ints.below hxu KB.out);obtain ⟨xa,xc,rfl,_⟩:=hxu.shape;have HKL:=ι hkl;have hxl:=XU.out.len;have HXL:=ι (show x.length≤1000000000 by obtain ⟨n,a,c,e,_,e2⟩:=hxl; omega);clear hgs hgk hcu hxu hxl hgb;go_upto_region 8 with (fail);refine wp_region_list ?_;refine Rg.lm 27 (.slice (some ⟨gb,go,none⟩) ll.length gc) ?_;go_frame;refine Rg.lm 28 (.int .i64 ((k:Nat):Int)) ?_;go_frame;refine Rg.lr 29 (exec_indexS slPerms _ _ rfl gb (go) (ll.length) gc (k) rfl rfl HKL.out) ?_;go_frame;refine Rg.lr 30 (Rg.exec_load (v:=.slice xa x.length xc) _ _ rfl ⟨gb,go+k,none⟩ rfl (Rg.run_loadSl _ _ Tryz.underlying51 ((Below.cell (p:=⟨gb,go+k,none⟩) K1.out CU.out.lt).trans CU.out.cell))) ?_;go_frame
   refine list_ask (some 31) rfl rfl _ _ (exec_fn1 119 _ _ rfl rfl (Wpcl0 _ _)) ?_;refine (refPermCheck_any _ _ wr (XU.out.below K1.out)).mono ?_;rintro e1 w11 ⟨rfl,hb⟩;refine ⟨_,rfl,?_⟩;go_frame;replace K1:=ι (Rg.acc K1.out hb);clear hb;refine Rg.la 7 (.int .i64 (Ma.pchk x)) ?_;go_frame
   by_cases hp0:Ma.pchk x=0
   ·by_cases hxd:(x.length:Int)=d
    ·skip
     go_upto_region 9 with (fail);refine wp_region_list ?_;refine Rg.lm 32 (.int .i64 (Ma.pchk x)) ?_;go_frame;refine Rg.lr 33 (exec_bin (R:=.bool false) .neq _ _ _ rfl rfl rfl (b_neqB _ (decide_eq_false (by omega)))) ?_;go_frame;go_upto_region 11 with (fail);refine wp_region_list ?_;refine Rg.lm 36 (.slice (some ⟨gb,go,none⟩) ll.length gc) ?_;go_frame;refine Rg.lm 37 (.int .i64 ((k:Nat):Int)) ?_;go_frame;refine Rg.lr 38 (exec_indexS slPerms _ _ rfl gb (go) (ll.length) gc (k) rfl rfl HKL.out) ?_;go_frame;refine Rg.lr 39 (Rg.exec_load (v:=.slice xa x.length xc) _ _ rfl ⟨gb,go+k,none⟩ rfl (Rg.run_loadSl _ _ Tryz.underlying51 ((Below.cell (p:=⟨gb,go+k,none⟩) K1.out CU.out.lt).trans CU.out.cell))) ?_;go_frame;refine Rg.lr 40 (exec_len _ _ _ rfl Tryz.underlying51 _ _ _ rfl) ?_;go_frame;refine Rg.lm 41 (.int .i64 d) ?_;go_frame;refine Rg.lr 42 (exec_bin (R:=.bool false) .neq _ _ _ rfl rfl rfl (b_neqB _ (decide_eq_false (by omega)))) ?_;go_frame
     have HG1:=ι (show Ma.gck d (ll.drop (k+1))=Ma.gck d ll by rw [← Ma.gck_next HKL.out (by rw [hx.out]; exact hp0) (by rw [hx.out]; exact hxd)]; exact HG0.out);go_wp2
     go_roundw
     case rel=>exact ⟨k+1,by go_num,HKL.out,K1,HG1⟩
     case measure=>simp [intOf]; have:=HKL.out; omega
    ·have HC:=ι (show mkchk d ll=10 by rw [HC0.out,← HG0.out]; exact Ma.gck_len HKL.out (by rw [hx.out]; exact hp0) (by rw [hx.out]; exact hxd))
     go_upto_region 9 with (fail);refine wp_region_list ?_;refine Rg.lm 32 (.int .i64 (Ma.pchk x)) ?_;go_frame;refine Rg.lr 33 (exec_bin (R:=.bool false) .neq _ _ _ rfl rfl rfl (b_neqB _ (decide_eq_false (by omega)))) ?_;go_frame;go_upto_region 11 with (fail);refine wp_region_list ?_;refine Rg.lm 36 (.slice (some ⟨gb,go,none⟩) ll.length gc) ?_;go_frame;refine Rg.lm 37 (.int .i64 ((k:Nat):Int)) ?_;go_frame;refine Rg.lr 38 (exec_indexS slPerms _ _ rfl gb (go) (ll.length) gc (k) rfl rfl HKL.out) ?_;go_frame;refine Rg.lr 39 (Rg.exec_load (v:=.slice xa x.length xc) _ _ rfl ⟨gb,go+k,none⟩ rfl (Rg.run_loadSl _ _ Tryz.underlying51 ((Below.cell (p:=⟨gb,go+k,none⟩) K1.out CU.out.lt).trans CU.out.cell))) ?_;go_frame;refine Rg.lr 40 (exec_len _ _ _ rfl Tryz.underlying51 _ _ _ rfl) ?_;go_frame;refine Rg.lm 41 (.int .i64 d) ?_;go_frame;refine Rg.lr 42 (exec_bin (R:=.bool true) .neq _ _ _ rfl rfl rfl (b_neqB _ (decide_eq_true (by omega)))) ?_;go_frame
     have FT2:=ι (FT.out.below K1.out);have KX:=ι (KB.out.trans (K1.out.mono KB.out.size));go_upto_region 12 with (fail);refine wp_region_list ?_;refine Rg.lr 43 (exec_buildC0 rfl) ?_;go_frame;refine Rg.list_skip none rfl rfl (Rg.exec_store _ _ _ rfl _ rfl _ rfl (run_storeC _ _ _ _ _ _ _ FT2.out)) ?_;go_frame;refine Rg.la 5 (.int .i64 ((10:Nat):Int)) ?_;go_frame;have hfz:=fin_zero FT2.out KX.out (Nat.le_refl _);generalize ((w11.setCell ⟨w.heap.size,0,none⟩ (.int .i64 0)).setCell ⟨w.heap.size,1,none⟩ (.slice none 0 0)).setCell ⟨w.heap.size,2,none⟩ (.slice none 0 0)=w99 at *
     have HFI:=ι (show ∃ cv,Ending.returned (.tuple #[zeroC,.int .i64 (10)])=.returned (.tuple #[cv,.int .i64 (mkchk d ll)])∧ChAnsF w.heap.size w99 d ll cv (mkchk d ll)∧Below w.heap.size w w99 from
      ⟨_,by rw [HC.out],.inl ⟨by rw [HC.out]; decide,rfl⟩,hfz.2⟩)
     have HTT:=ι hfz.1;clear hfz;go_wp2;exact bodyPost_ret (results_cellC2 (p:=4) (u:=5) rfl _ rfl rfl HTT.out) rfl HFI.out
   ·have HC:=ι (show mkchk d ll=Ma.pchk x by rw [HC0.out,← HG0.out,Ma.gck_bad HKL.out (by rw [hx.out]; exact hp0),hx.out])
    go_upto_region 9 with (fail);refine wp_region_list ?_;refine Rg.lm 32 (.int .i64 (Ma.pchk x)) ?_;go_frame;refine Rg.lr 33 (exec_bin (R:=.bool true) .neq _ _ _ rfl rfl rfl (b_neqB _ (decide_eq_true (by omega)))) ?_;go_frame;have FT2:=ι (FT.out.below K1.out);have KX:=ι (KB.out.trans (K1.out.mono KB.out.size));go_upto_region 10 with (fail);refine wp_region_list ?_;refine Rg.lr 34 (exec_buildC0 rfl) ?_;go_frame;refine Rg.lm 35 (.int .i64 (Ma.pchk x)) ?_;go_frame;refine Rg.list_skip none rfl rfl (Rg.exec_store _ _ _ rfl _ rfl _ rfl (run_storeC _ _ _ _ _ _ _ FT2.out)) ?_;go_frame;refine Rg.la 5 (.int .i64 (Ma.pchk x)) ?_;go_frame;have hfz:=fin_zero FT2.out KX.out (Nat.le_refl _);generalize ((w11.setCell ⟨w.heap.size,0,none⟩ (.int .i64 0)).setCell ⟨w.heap.size,1,none⟩ (.slice none 0 0)).setCell ⟨w.heap.size,2,none⟩ (.slice none 0 0)=w99 at *
    have HFI:=ι (show ∃ cv,Ending.returned (.tuple #[zeroC,.int .i64 (Ma.pchk x)])=.returned (.tuple #[cv,.int .i64 (mkchk d ll)])∧ChAnsF w.heap.size w99 d ll cv (mkchk d ll)∧Below w.heap.size w w99 from
     ⟨_,by rw [HC.out],.inl ⟨by rw [HC.out]; exact hp0,rfl⟩,hfz.2⟩)
    have HTT:=ι hfz.1;clear hfz;go_wp2;exact bodyPost_ret (results_cellC2 (p:=4) (u:=5) rfl _ rfl rfl HTT.out) rfl HFI.out
  ·obtain rfl:k=ll.length:=by omega
   have hkN:¬ (ll.length:Int)<(ll.length:Int):=by omega
   have hz:=HG0.out;rw [Ma.gck_end (Nat.le_refl _)] at hz;obtain ⟨n,gs,hdn,hll,hgd,hn1,hn2,hgl⟩:=mk_ok hd3.1 hd3.2 hz.symm;have HLL:=ι hll;have HGL:=ι hgl;have HGD:=ι hgd;have HC:=ι (show mkchk d ll=0 by rw [HC0.out]; exact hz.symm);subst hdn;have FT2:=ι (FT.out.below K1.out);have KX:=ι (KB.out.trans (K1.out.mono KB.out.size));have GR:=ι (Rg.Rows.below G0.out K1.out);clear hll hgl hgd hz;have HWD:=ι FT2.out.lt;have KXB:=KX;have hgs0:GS (fun k=>k<wr.heap.size) wr (.slice ga ll.length gc) gs:=GS.of_rows (by have:=GR.out; rw [show gs.map Ma.ofN=ll from HLL.out.symm]; exact this);go_upto_region 13 with (fail);refine wp_region_list ?_;refine Rg.lm 44 (.int .i64 ((n:Nat):Int)) ?_;go_frame;refine list_ask (some 45) rfl rfl _ _ (exec_fn1 197 _ _ rfl rfl (Wpcl1 _ _)) ?_;refine (empty_b hn1 hn2 wr).mono ?_;rintro e1 w61 ⟨tb,tc,F0,Rb,rfl,hkg,htab,hb⟩
   have GE:=ι (hgs0.kg hkg);have TE:=ι htab;have KGA:=ι hkg;clear hkg htab hgs0;refine ⟨_,rfl,?_⟩;go_frame;replace FT2:=ι (FT2.out.below hb);replace GR:=ι (GR.out.below hb);replace KX:=ι (Rg.acc KX.out hb);clear hb;refine Rg.la 8 (.slice (some ⟨tb,0,none⟩) n tc) ?_;go_frame;obtain ⟨wB,hwB⟩:∃ W,Hid (W=wr):=⟨_,ι rfl⟩;rw [← hwB.out] at KGA HWD KXB;clear hwB GR;have KE:=ι (KG.refl TE.out.Flt);have OK0:=ι (Cm.TabOk.nil0 (n:=n) (gs:=(·∈gs)));have HS0:=ι (show ∀ a (h:a<gs.length),a<0→Cm.Sd n (Cm.idT n (fun _ _=>none)) n gs[a] from fun a _ h=>absurd h (Nat.not_lt_zero _));have HGN:=HGL;go_wp2
   go_loopw [9] (fun jv wr=>∃ (j:Nat) (F1:Nat→Prop) (V:Nat→Nat→Value) (tr:Tr),jv=.int .i64 j∧j≤ll.length∧Hid (TabAt F1 tb 0 n wr tr Rb V)∧Hid (KG F0 w61 F1 wr)∧Hid (TabOk n (·∈gs) tr)∧Hid (∀ a (h:a<gs.length),a<j→Cm.Sd n (Cm.idT n tr) n gs[a])) (fun jv _=>ll.length - (intOf jv).toNat)
   case atStart=>exact ⟨0,_,_,_,rfl,Nat.zero_le _,TE,KE,OK0,HS0⟩
   case round =>
    clear TE KE OK0 HS0;obtain ⟨j,F,V,tr,rfl,hj,HT,KE,OK,HS⟩:=hrel
    by_cases hjl:j<ll.length
    ·have hjN:(j:Int)<(ll.length:Int):=by omega
     have HJL:=ι hjl
     have hjg:j<gs.length:=by have:=HGN.out; omega
     have HJG:=ι hjg
     have hga:∃ gb go,ga=some ⟨gb,go,none⟩:=by
      obtain ⟨a,c,e,h1⟩:=GE.out;obtain ⟨b,o,e2,_⟩:=h1 (by omega)
      injection e with e _ _
      exact ⟨b,o,e.trans e2⟩
     obtain ⟨gb,go,rfl⟩:=hga;obtain ⟨u,hcu,hxu⟩:=GE.out.at hjg;obtain ⟨x,hx⟩:∃ x:List Nat,Hid (gs[j]'hjg=x):=⟨_,ι rfl⟩
     replace hxu:FP F0 w61 u x:=by rw [← hx.out]; exact hxu
     have GX:=ι (show Cm.Gd n x by rw [← hx.out]; exact HGD.out _ (List.getElem_mem hjg));have hgx:Cm.Gr n (·∈gs) x:=.gen _ (by rw [← hx.out]; exact List.getElem_mem hjg);have CU:=ι (hcu.kg KE.out);have XU:=ι (hxu.kg KE.out);have hins:=tab_ins HGD.out OK.out hgx;clear hcu hxu hgx;go_upto_region 17 with (fail);refine wp_region_list ?_;refine Rg.lm 52 (.slice (some ⟨tb,0,none⟩) n tc) ?_;go_frame;refine Rg.lm 53 (.slice (some ⟨gb,go,none⟩) ll.length gc) ?_;go_frame;refine Rg.lm 54 (.int .i64 ((j:Nat):Int)) ?_;go_frame;refine Rg.lr 55 (exec_indexS slPerms _ _ rfl gb (go) (ll.length) gc (j) rfl rfl HJL.out) ?_;go_frame;refine Rg.lr 56 (Rg.exec_load (v:=u) _ _ rfl ⟨gb,go+j,none⟩ rfl (Rg.run_loadSl _ _ Tryz.underlying51 CU.out.cell)) ?_;go_frame;refine list_ask (some 57) rfl rfl _ _ (exec_fn 198 _ _ _ rfl rfl rfl (Wlcl2 _ _)) ?_;refine (insert_any hn1 hn2 HT.out OK.out.rp XU.out GX.out).mono ?_
     rintro e1 w81 ⟨F9,V9,rfl,hki,htab⟩;have hkg:=hki.kg;refine ⟨_,rfl,?_⟩;go_frame;clear HT;clear CU;clear XU;replace KE:=ι (KE.out.trans hkg);have HT:=ι htab;clear hkg;clear hki htab;generalize insT n tr (Cm.sfP n (Cm.idT n tr) n x)=tr2 at *;have OK2:=ι hins.1
     have HS2:=ι (show ∀ a (h:a<gs.length),a<j+1→Cm.Sd n (Cm.idT n tr2) n gs[a] from fun a h ha=>by
      by_cases e:a=j
      ·subst e
       rw [show gs[a]=x from hx.out]; exact hins.2.2.1
      ·exact Cm.Sd.mono (fun i p u _=>hins.2.1 i p u) (HS.out a h (by omega)))
     clear hins;go_wp2
     go_roundw
     case rel=>exact ⟨j+1,_,_,_,by go_num,HJL.out,HT,KE,OK2,HS2⟩
     case measure=>simp [intOf]; have:=HJL.out; omega
    ·obtain rfl:j=ll.length:=by omega
     have hjN:¬ (ll.length:Int)<(ll.length:Int):=by omega
     have HSA:=ι (show ∀ s,s∈gs→Cm.Sd n (Cm.idT n tr) n s from fun s hs=>by
      obtain ⟨a,ha,rfl⟩:=List.getElem_of_mem hs
      exact HS.out a ha (by have:=HGN.out; omega))
     go_upto_region 18 with (fail);refine wp_region_list ?_;refine Rg.lm 58 (.slice (some ⟨tb,0,none⟩) n tc) ?_;go_frame;refine list_ask (some 59) rfl rfl _ _ (exec_fn1 199 _ _ rfl rfl (Wpcl3 _ _)) ?_;refine (rclose_any hn1 hn2 HT.out HGD.out OK.out HSA.out).mono ?_;rintro e1 w91 ⟨F9,V9,tr9,rfl,hkg,htab,hok9,htr9⟩;have OK9:=ι hok9;have TR9:=ι htr9;clear hok9 htr9;refine ⟨_,rfl,?_⟩;go_frame;clear HT;replace KE:=ι (KE.out.trans hkg);have HT:=ι htab;clear hkg;clear htab;have hbk:Below wB.heap.size wB w91:=(KGA.out.trans KE.out).kf.below (Nat.le_refl _) (fun _ h=>h);have hbe:Below wB.heap.size wB w61:=KGA.out.kf.below (Nat.le_refl _) (fun _ h=>h);have FT3:=ι (show Tri w91 w.heap.size (.int .i64 0) (.slice none 0 0) (.slice none 0 0) from FT2.out.kp KE.out.kf (fun h=>h (KGA.out.sub _ HWD.out)));have KY:=ι (show Below w.heap.size w w91 from (KXB.out.trans (hbk.mono KXB.out.size)))
     clear hbk hbe FT2 KX KE KGA;go_upto_region 19 with (fail);refine wp_region_list ?_;refine Rg.lm 60 (.slice (some ⟨tb,0,none⟩) n tc) ?_;go_frame;have HWB:=ι FT3.out.lt;refine list_ask (some 61) rfl rfl _ _ (exec_fn1 200 _ _ rfl rfl (Wpcl4 _ _)) ?_;refine (rchain_any hn1 hn2 HT.out HGD.out OK9.out TR9.out).mono ?_;rintro e1 w92 ⟨ov,rv,O,R,rfl,hO,hR,hCh,hb⟩;have HWC:=ι (Nat.lt_of_lt_of_le HWB.out hb.size);obtain ⟨oa,oc,rfl,_⟩:=hO.rows.shape;obtain ⟨ra,rc,rfl⟩:=hR.rows.shape;have HO:=ι hO;have HR:=ι hR;have HCH:=ι hCh;clear hO hR hCh;refine ⟨_,rfl,?_⟩;go_frame;replace FT3:=ι (FT3.out.below hb);replace HT:=ι (HT.out.below hb);replace KY:=ι (Rg.acc KY.out hb);clear hb;refine Rg.list_skip none rfl rfl (Rg.exec_store _ _ _ rfl _ rfl _ rfl (run_storeC _ _ _ _ _ _ _ FT3.out)) ?_;go_frame;refine Rg.la 5 (.int .i64 ((0:Nat):Int)) ?_;go_frame;have htt:=FT3.out.set (.int .i64 ((n:Nat):Int)) (.slice oa (O.map Ma.ofN).length oc) (.slice ra (R.map (List.map Ma.ofN)).length rc)
     have hkt:=Rg.Kp.trans (Rg.Kp.trans (Rg.Kp.of_setCell (M:=fun z=>z=w.heap.size) (w:=w92) (a:=⟨w.heap.size,0,none⟩) (v:=.int .i64 ((n:Nat):Int)) rfl) (Rg.Kp.of_setCell (M:=fun z=>z=w.heap.size) (a:=⟨w.heap.size,1,none⟩) (v:=(.slice oa (O.map Ma.ofN).length oc)) rfl) (fun _ _ e=>e)) (Rg.Kp.of_setCell (M:=fun z=>z=w.heap.size) (a:=⟨w.heap.size,2,none⟩) (v:=(.slice ra (R.map (List.map Ma.ofN)).length rc)) rfl) (fun _ _ e=>e);have hro:=FRows.mono (F':=fun z=>w.heap.size≤z) (FRows.kp HO.out hkt (fun z g e=>by have:=HWB.out; omega)) (fun z hz=>by have:=HWB.out; omega);have hrr:=(HR.out.kp hkt (fun z g e=>by have:=HWB.out; omega)).mono (F':=fun z=>w.heap.size≤z) (fun z hz=>by have:=HWB.out; omega);have hkf:=((KY.out.setCell (p:=⟨w.heap.size,0,none⟩) (Nat.le_refl _) (.int .i64 ((n:Nat):Int))).setCell (p:=⟨w.heap.size,1,none⟩) (Nat.le_refl _) (.slice oa (O.map Ma.ofN).length oc)).setCell (p:=⟨w.heap.size,2,none⟩) (Nat.le_refl _) (.slice ra (R.map (List.map Ma.ofN)).length rc)
     generalize ((w92.setCell ⟨w.heap.size,0,none⟩ (.int .i64 ((n:Nat):Int))).setCell ⟨w.heap.size,1,none⟩ (.slice oa (O.map Ma.ofN).length oc)).setCell ⟨w.heap.size,2,none⟩ (.slice ra (R.map (List.map Ma.ofN)).length rc)=w99 at *;have HTT:=ι htt
     have HFI:=ι (show ∃ cv,Ending.returned (.tuple #[.agg #[.int .i64 ((n:Nat):Int),(.slice oa (O.map Ma.ofN).length oc),(.slice ra (R.map (List.map Ma.ofN)).length rc)],.int .i64 0])=.returned (.tuple #[cv,.int .i64 (mkchk ((n:Nat):Int) ll)])∧ChAnsF w.heap.size w99 ((n:Nat):Int) ll cv (mkchk ((n:Nat):Int) ll)∧Below w.heap.size w w99 from
      ⟨_,by rw [HC.out],.inr ⟨HC.out,n,gs,rfl,HLL.out,hn1,hn2,_,_,O,R,rfl,hro,hrr,HCH.out⟩,hkf⟩)
     clear htt hkt hro hrr hkf;go_wp2;exact bodyPost_ret (results_cellC2 (p:=4) (u:=5) rfl _ rfl rfl HTT.out) rfl HFI.out

theorem Wqcl0 (args:Array Value) (w:World):(callFunc 92 args).run Tryz.prog w=.ok (.enter 92 args) w:=by kernel_rfl
theorem Wqcl1 (args:Array Value) (w:World):(callFunc 120 args).run Tryz.prog w=.ok (.enter 120 args) w:=by kernel_rfl
theorem mk_g {d:Int} {ll:List (List Int)} (h:Ma.gchk d ll=0):1≤d∧d≤64∧mkchk d ll=0:=by
 by_cases h1:1≤d∧d≤64
 ·by_cases h2:ll.length≤16
  ·rw [Ma.gchk_in h1.1 h1.2 h2] at h
   refine ⟨h1.1,h1.2,?_⟩;unfold mkchk;rw [if_pos h1,if_pos (by omega)];exact h
  ·rw [Ma.gchk_long h1.1 h1.2 h2] at h; cases h
 ·rw [Ma.gchk_range h1] at h; cases h
theorem rOf_any (gv:Value) (d:Int) (ll:List (List Int)) (w:World) (h:Rg.Rows w gv ll) :
  Calls Tryz.prog 67 #[.agg #[.int .i64 d,gv]] w fun e w'=>∃ cv,e=.returned (.tuple #[cv,.int .i64 (Ma.gchk d ll)])∧ChAns w' d ll cv (Ma.gchk d ll)∧Below w.heap.size w w':=by
 obtain ⟨ga,gc,rfl,hga,hba⟩:=GI.enter (d) h;have K:=ι hba;have G0:=ι hga;clear h hga hba
 go_enter Tryz.func67,Tryz.ntmps67
 go_upto_region 0 with (fail);refine wp_region_list ?_;refine Rg.lr 1 (Rg.exec_box _ _ rfl rfl) ?_;go_frame;generalize w.alloc (.cells #[.int .i64 d,.slice ga ll.length gc] 24)=w0 at *;have HW0:=ι K.out.size;have hnew:=Tri.new w0 (.int .i64 0) (.slice none 0 0) (.slice none 0 0);refine Rg.lr 2 (exec_allocC rfl) ?_;go_frame;have hb:=(Below.refl w0.heap.size w0).alloc (Nat.le_refl _) (.cells #[.int .i64 0,.slice none 0 0,.slice none 0 0] 54);generalize w0.alloc (.cells #[.int .i64 0,.slice none 0 0,.slice none 0 0] 54)=w1 at *;replace G0:=ι (G0.out.below hb);replace K:=ι (Rg.acc K.out hb);clear hb;have FT:=ι hnew;clear hnew;go_upto_region 1 with (fail);refine wp_region_list ?_;refine Rg.lr 5 (Rg.exec_load (v:=.agg #[.int .i64 d,.slice ga ll.length gc]) _ _ rfl ⟨w.heap.size,0,none⟩ rfl (run_loadG G0.out.c0 G0.out.c1)) ?_;go_frame;refine list_ask (some 6) rfl rfl _ _ (exec_fn1 92 _ _ rfl rfl (Wqcl0 _ _)) ?_
 refine (ref07Check_any _ _ _ w1 G0.out.rows).mono ?_;rintro e1 w2 ⟨rfl,hb⟩;refine ⟨_,rfl,?_⟩;go_frame;replace G0:=ι (G0.out.below hb);replace FT:=ι (FT.out.below hb);replace K:=ι (Rg.acc K.out hb);clear hb;refine Rg.la 4 (.int .i64 (Ma.gchk d ll)) ?_;go_frame
 by_cases hz:Ma.gchk d ll=0
 ·obtain ⟨hd1,hd2,hmk⟩:=mk_g hz
  have HMK:=ι hmk;clear hmk;go_upto_region 2 with (fail);refine wp_region_list ?_;refine Rg.lm 7 (.int .i64 (Ma.gchk d ll)) ?_;go_frame;refine Rg.lr 8 (exec_bin (R:=.bool false) .neq _ _ _ rfl rfl rfl (b_neqB _ (decide_eq_false (by omega)))) ?_;go_frame;go_upto_region 4 with (fail);refine wp_region_list ?_;refine Rg.lr 11 (exec_fieldG0 _ rfl rfl) ?_;go_frame;refine Rg.lr 12 (Rg.exec_load (v:=.int .i64 d) _ _ rfl ⟨w.heap.size,0,none⟩ rfl (run_loadInt G0.out.c0)) ?_;go_frame;refine Rg.lr 13 (exec_fieldG _ rfl rfl) ?_;go_frame;refine Rg.lr 14 (Rg.exec_load (v:=.slice ga ll.length gc) _ _ rfl ⟨w.heap.size,1,none⟩ rfl (Rg.run_loadSl _ _ Tryz.underlying22 G0.out.c1)) ?_;go_frame;have HWB:=ι FT.out.lt;refine list_ask (some 15) rfl rfl _ _ (exec_fn 120 _ _ _ rfl rfl rfl (Wqcl1 _ _)) ?_;refine (rMake_any _ d ll w2 G0.out.rows).mono ?_;rintro e1 w3 ⟨cv,rfl,hcv,hb⟩;obtain ⟨e5,oa,on,oc,ra,rn,rc,rfl⟩:=hcv.ans.shape
  have HCV:=ι hcv;clear hcv;refine ⟨_,rfl,?_⟩;go_frame;replace G0:=ι (G0.out.below hb);replace FT:=ι (FT.out.below hb);replace K:=ι (Rg.acc K.out hb);clear hb;refine Rg.lr 16 (exec_extract (v:=(.agg #[.int .i64 e5,.slice oa on oc,.slice ra rn rc])) _ _ rfl rfl rfl) ?_;go_frame;refine Rg.lr 17 (exec_extract (v:=.int .i64 (mkchk d ll)) _ _ rfl rfl rfl) ?_;go_frame;refine Rg.list_skip none rfl rfl (Rg.exec_store _ _ _ rfl _ rfl _ rfl (run_storeC _ _ _ _ _ _ _ FT.out)) ?_;go_frame;refine Rg.la 3 (.int .i64 (mkchk d ll)) ?_;go_frame;have htt:=FT.out.set (.int .i64 e5) (.slice oa on oc) (.slice ra rn rc);have hkt:=Rg.Kp.trans (Rg.Kp.trans (Rg.Kp.of_setCell (M:=fun z=>z=w0.heap.size) (w:=w3) (a:=⟨w0.heap.size,0,none⟩) (v:=.int .i64 e5) rfl) (Rg.Kp.of_setCell (M:=fun z=>z=w0.heap.size) (a:=⟨w0.heap.size,1,none⟩) (v:=(.slice oa on oc)) rfl) (fun _ _ e=>e)) (Rg.Kp.of_setCell (M:=fun z=>z=w0.heap.size) (a:=⟨w0.heap.size,2,none⟩) (v:=(.slice ra rn rc)) rfl) (fun _ _ e=>e)
  have hfa:=(HCV.out.kp hkt (fun z e=>by rw [e]; exact HWB.out)).ans;have hkf:=((K.out.setCell (p:=⟨w0.heap.size,0,none⟩) HW0.out (.int .i64 e5)).setCell (p:=⟨w0.heap.size,1,none⟩) HW0.out (.slice oa on oc)).setCell (p:=⟨w0.heap.size,2,none⟩) HW0.out (.slice ra rn rc);generalize ((w3.setCell ⟨w0.heap.size,0,none⟩ (.int .i64 e5)).setCell ⟨w0.heap.size,1,none⟩ (.slice oa on oc)).setCell ⟨w0.heap.size,2,none⟩ (.slice ra rn rc)=w99 at *;have HTT:=ι htt
  have HFI:=ι (show ∃ cv,Ending.returned (.tuple #[.agg #[.int .i64 e5,(.slice oa on oc),(.slice ra rn rc)],.int .i64 (mkchk d ll)])=.returned (.tuple #[cv,.int .i64 (Ma.gchk d ll)])∧ChAns w99 d ll cv (Ma.gchk d ll)∧Below w.heap.size w w99 from
   ⟨_,by rw [hz,HMK.out],by rw [hz]; rw [HMK.out] at hfa; exact hfa,hkf⟩)
  clear htt hkt hfa hkf;go_wp2;exact bodyPost_ret (results_cellC2 (p:=2) (u:=3) rfl _ rfl rfl HTT.out) rfl HFI.out
 ·skip
  go_upto_region 2 with (fail);refine wp_region_list ?_;refine Rg.lm 7 (.int .i64 (Ma.gchk d ll)) ?_;go_frame;refine Rg.lr 8 (exec_bin (R:=.bool true) .neq _ _ _ rfl rfl rfl (b_neqB _ (decide_eq_true (by omega)))) ?_;go_frame;go_upto_region 3 with (fail);refine wp_region_list ?_;refine Rg.lr 9 (exec_buildC0 rfl) ?_;go_frame;refine Rg.lm 10 (.int .i64 (Ma.gchk d ll)) ?_;go_frame;refine Rg.list_skip none rfl rfl (Rg.exec_store _ _ _ rfl _ rfl _ rfl (run_storeC _ _ _ _ _ _ _ FT.out)) ?_;go_frame;refine Rg.la 3 (.int .i64 (Ma.gchk d ll)) ?_;go_frame;have htt:=FT.out.set (.int .i64 0) (.slice none 0 0) (.slice none 0 0);have hkf:=((K.out.setCell (p:=⟨w0.heap.size,0,none⟩) HW0.out (.int .i64 0)).setCell (p:=⟨w0.heap.size,1,none⟩) HW0.out (.slice none 0 0)).setCell (p:=⟨w0.heap.size,2,none⟩) HW0.out (.slice none 0 0);generalize ((w2.setCell ⟨w0.heap.size,0,none⟩ (.int .i64 0)).setCell ⟨w0.heap.size,1,none⟩ (.slice none 0 0)).setCell ⟨w0.heap.size,2,none⟩ (.slice none 0 0)=w99 at *
  have HTT:=ι htt
  have HFI:=ι (show ∃ cv,Ending.returned (.tuple #[zeroC,.int .i64 (Ma.gchk d ll)])=.returned (.tuple #[cv,.int .i64 (Ma.gchk d ll)])∧ChAns w99 d ll cv (Ma.gchk d ll)∧Below w.heap.size w w99 from
   ⟨_,rfl,.inl ⟨hz,rfl⟩,hkf⟩)
  clear htt hkf;go_wp2;exact bodyPost_ret (results_cellC2 (p:=2) (u:=3) rfl _ rfl rfl HTT.out) rfl HFI.out
end Go.Proofs.YthehbckogieimaaGreat

namespace Go.Proofs.YthehbckogieimaaGreat
open Go.RowKit
open Go.Proofs
open Go.Proofs.Ob
attribute [local irreducible] Go.Calls Go.wpList
def ChEqR (w:World) (ov rv:Value) (OO:List (List Int)) (RR:List (List (List Int))):Prop:=Rg.Rows w ov OO∧Rows2 w rv RR
theorem ChEqR.below {w w':World} {ov rv:Value} {OO:List (List Int)} {RR:List (List (List Int))} (h:ChEqR w ov rv OO RR) (hb:Below w.heap.size w w'):ChEqR w' ov rv OO RR:=⟨h.1.below hb,h.2.below hb⟩
end Go.Proofs.YthehbckogieimaaGreat

namespace Go.Proofs.RF
open Go Go.RowKit
def Dfr (D:Nat) (W:World):Prop:=W.heap[D]?=some (.deferred (some []))
theorem Dfr.size {D:Nat} {W:World} (h:Dfr D W):D<W.heap.size:=(Array.getElem?_eq_some_iff.1 h).1
theorem Dfr.alloc {D:Nat} {W:World} (h:Dfr D W) (o:Obj):Dfr D (W.alloc o):=(Below.heap_alloc W o D h.size).trans h
theorem Dfr.drew {D:Nat} {W:World} (h:Dfr D W):Dfr D W.drew:=h
theorem Dfr.setCell {D:Nat} {W:World} (h:Dfr D W) (a:Addr) (v:Value):Dfr D (W.setCell a v) :=
 (KeepsOthers.setCell W a v).same D _ h rfl
theorem Dfr.cell {D:Nat} {o:Option (List Deferred)} {W:World} (h:Dfr D W) (a:Addr):(W.putObj D (.deferred o)).cell? a=W.cell? a:=by
 unfold World.cell?
 by_cases e:a.block=D
 ·rw [e,World.putObj_heap_same h.size,show W.heap[D]?=_ from h]
 ·rw [World.putObj_heap_other e]
theorem Dfr.frozen {D:Nat} {o:Option (List Deferred)} {W:World} (h:Dfr D W) (a:Addr):(W.putObj D (.deferred o)).frozen? a=W.frozen? a:=by
 unfold World.frozen?
 by_cases e:a.block=D
 ·rw [e,World.putObj_heap_same h.size,show W.heap[D]?=_ from h]
 ·rw [World.putObj_heap_other e]
def mark (D:Nat):Deferred:={ target:=.collected D,args:=#[] }
theorem leaves {n:Nat} {P:Program} {fn:Func} {tmps:Array Value} {R:Ending→World→Prop} (B:Nat):∀ (ds:List Nat) (W:World),ds.Nodup→(∀ D,D∈ds→Dfr D W∧B≤D) →
  (∀ W',Below B W W'→(∀ a,W'.cell? a=W.cell? a)→(∀ a,W'.frozen? a=W.frozen? a)→∃ v,(results fn tmps).run P W'=.ok v W'∧R (.returned v) W') →
  LeavesInM Fence.wide n P fn tmps R (ds.map mark) .returning W
 | [],W,_,_,h=>h W (Below.refl _ _) (fun _=>rfl) (fun _=>rfl)
 | D :: ds,W,hn,hD,h=>by
  rw [List.nodup_cons] at hn;obtain ⟨hd,hB⟩:=hD D (by simp);have hb:Below B W (W.putObj D (.deferred none)):=⟨rfl,rfl,rfl,by simp,fun k hk=>World.putObj_heap_other (by omega)⟩;refine ⟨by simp,.inl ⟨D,_,rfl,run_takeDeferred hd,leaves B ds _ hn.2 (fun D' hD'=>?_) (fun W' h1 h2 h3=>?_)⟩⟩
  ·refine ⟨(World.putObj_heap_other ?_).trans (hD D' (by simp [hD'])).1,(hD D' (by simp [hD'])).2⟩
   intro e; exact hn.1 (e▸hD')
  ·exact h W' (hb.trans h1) (fun a=>(h2 a).trans (hd.cell a)) (fun a=>(h3 a).trans (hd.frozen a))
end Go.Proofs.RF
namespace Go.Proofs.YthehbckogieimaaGreat
open Go.RowKit
open Go.Proofs
open Go.Shelf
attribute [local irreducible] Go.Calls Go.wpList
structure KK (B n₀:Nat) (W W':World):Prop where
 keeps:KeepsFrom B W W'
 bel:Below n₀ W W'
 le:n₀≤W.heap.size
theorem KK.refl {B n₀:Nat} {W:World} (h:n₀≤W.heap.size):KK B n₀ W W:=⟨KeepsFrom.refl _ _,Below.refl _ _,h⟩
theorem KK.acc {B n₀:Nat} {W W' W'':World} (h:KK B n₀ W W') (hb:Below W'.heap.size W' W''):KK B n₀ W W'' :=
 ⟨h.keeps.trans ⟨hb.size,fun k o _ hk _=>(hb.block k (Array.getElem?_eq_some_iff.1 hk).1).trans hk⟩,h.bel.trans (hb.mono (Nat.le_trans h.le h.bel.size)),h.le⟩
theorem KK.set {B n₀:Nat} {W W':World} (h:KK B n₀ W W') {b o:Nat} (v:Value) (hb:n₀≤b):KK B n₀ W (W'.setCell ⟨b,o,none⟩ v) :=
 ⟨h.keeps.trans ((KeepsOthers.setCell _ _ _).from _),h.bel.setCell (p:=⟨b,o,none⟩) hb v,h.le⟩
theorem KK.grown {B n₀:Nat} {W W' W'':World} (h:KK B n₀ W W') {e:TypeId} {v:Value} {n size:Nat} {xs:List Value} (hr:W'.ownsRow n₀ e size v n xs) (hg:W'.grownBy W'' v.ownBlock):KK B n₀ W W'' :=
 ⟨h.keeps.trans ((KeepsOthers.of_grownBy hg (fun j o e1 e2=>by
  obtain ⟨_,h2⟩:=hr
  rcases h2 with ⟨h3,_⟩ | ⟨g,cap,cur,h3,hg0,hc,_⟩
  ·rw [h3] at e1; simp [Value.ownBlock] at e1
  ·rw [h3] at e1
   simp [Value.ownBlock] at e1;subst e1;rw [hc] at e2
   cases e2; rfl)).from _),h.bel.grown hg (Nat.le_trans h.le h.bel.size) (fun j hj=>(hr.lt j hj).1),h.le⟩
end Go.Proofs.YthehbckogieimaaGreat

namespace Go.Proofs.YthehbckogieimaaGreat
open Go.Proofs
open Go.Proofs.Cm (Gr Gd IsChain IsG St)
theorem map_ofN_inj:∀ {a b:List (List Nat)},a.map Ma.ofN=b.map Ma.ofN→a=b
 | [],[],_=>rfl
 | [],_ :: _,h=>by simp at h
 | _ :: _,[],h=>by simp at h
 | x :: a,y :: b,h=>by
  simp only [List.map_cons,List.cons.injEq] at h;rw [Ma.ofN_inj h.1,map_ofN_inj h.2]
end Go.Proofs.YthehbckogieimaaGreat

namespace Go.Proofs.YthehbckogieimaaGreat
open Go.RowKit
open Go.Proofs
open Go.Proofs.Ob
open Go.Shelf
open Go.Proofs.Cm (Lv Twr trOf)
attribute [local go_sem] Oper.semAt_some
attribute [local irreducible] Go.Calls Go.wpList Go.wpListIn
theorem CL.kp {M:Nat→Prop} {w w':World} {b o:Nat} {v:Value} (h:CL w b o v) (hk:Rg.Kp M w w') (hM:¬ M b):CL w' b o v :=
 ⟨(World.cell?_of_block (a:=⟨b,o,none⟩) (hk.block b h.lt hM)).trans h.cell,Nat.lt_of_lt_of_le h.lt hk.size⟩
theorem CL.upto {B:Nat} {w w':World} {b o:Nat} {v:Value} (h:CL w b o v) (hb:Below B w w') (hB:b<B):CL w' b o v:=⟨(hb.cell (p:=⟨b,o,none⟩) hB).trans h.cell,Nat.lt_of_lt_of_le h.lt hb.size⟩
theorem ChEqR.mk {w:World} {ov rv:Value} {OO:List (List Int)} {RR:List (List (List Int))} (h1:Rg.Rows w ov OO) (h2:Rows2 w rv RR):ChEqR w ov rv OO RR:=⟨h1,h2⟩
theorem ChEqR.upto {w w':World} {ov rv:Value} {OO:List (List Int)} {RR:List (List (List Int))} (h:ChEqR w ov rv OO RR) (hb:Below w.heap.size w w'):ChEqR w' ov rv OO RR:=h.below hb
theorem KK.below {B n₀:Nat} {W W' W'':World} (h:KK B n₀ W W') (hb:Below W'.heap.size W' W''):KK B n₀ W W'':=h.acc hb
theorem KK.row {B n₀:Nat} {W W1 X:World} {F:Nat→Prop} {B2:Nat} {v:Value} {gs:List (List Nat)} (h:KK B n₀ W W1) (hk:Rg.Kp (fun k=>v.ownBlock=some k) W1 X) (hr:RowF F B2 W1 v gs) (hn:n₀≤B2):KK B n₀ W X:=by
 obtain ⟨us,q1,q2⟩:=hr.own
 have hcells:∀ j o,v.ownBlock=some j→W1.heap[j]?=some o→o.isCells=true:=fun j o e1 e2=>by
  obtain ⟨_,h3⟩:=q1
  rcases h3 with ⟨h4,_⟩ | ⟨g,cap,cur,h4,_,h5,_⟩
  ·rw [h4] at e1; simp [Value.ownBlock] at e1
  ·rw [h4] at e1
   simp [Value.ownBlock] at e1;subst e1;rw [h5] at e2
   cases e2; rfl
 refine ⟨h.keeps.trans ⟨hk.size,fun k o _ hk2 ho=>(hk.block k (Array.getElem?_eq_some_iff.1 hk2).1 (fun e=>by rw [hcells k o e hk2] at ho; cases ho)).trans hk2⟩,h.bel.trans ⟨hk.os,hk.tape,hk.output,hk.size,fun k hk2=>hk.block k (by have:=h.bel.size; have:=h.le; omega) (fun e=>by have:=(q1.lt k e).1; omega)⟩,h.le⟩
end Go.Proofs.YthehbckogieimaaGreat

namespace Go.Proofs.YthehbckogieimaaGreat
open Go.RowKit
open Go.Proofs
open Go.Proofs.Ob
attribute [local irreducible] Go.Calls Go.wpList
theorem b_rem {w:World} {u v r:Int} (t:TypeId) (hv:v≠0) (h:u.tmod v=r) (_hb:-9223372036854775808≤r∧r≤9223372036854775807):(binOp .rem t (.int .i64 u) (.int .i64 v)).run Tryz.prog w=.ok (.int .i64 r) w:=by
 simp [binOp,Op.intDiv,hv,h]
end Go.Proofs.YthehbckogieimaaGreat

namespace Go.Proofs.YthehbckogieimaaGreat
open Go.Proofs
open Go.Proofs.Cm (Gr Gd IsChain IsG IsTr St Tr Sd Fx ap)
structure TE where
 i:Nat
 p:Nat
 u:List Nat
 w:List Nat
end Go.Proofs.YthehbckogieimaaGreat

namespace Go.Proofs.YthehbckogieimaaGreat
open Go.RowKit
open Go.Proofs
open Go.Proofs.Ob
attribute [local irreducible] Go.Calls Go.wpList
theorem chOf_gs {N:Nat} {gs:List (List Nat)} (hg:Ma.gchk ((N:Nat):Int) (gs.map Ma.ofN)=0) {gv:Value} {w:World} (h:Rg.Rows w gv (gs.map Ma.ofN)) :
  Calls Tryz.prog 97 #[.agg #[.int .i64 ((N:Nat):Int),gv]] w fun e w'=>∃ ov rv O R,e=.returned (.tuple #[.agg #[.int .i64 ((N:Nat):Int),ov,rv],.int .i64 0])∧ChEqR w' ov rv (O.map Ma.ofN) (R.map (List.map Ma.ofN))∧Cm.IsChain N (Cm.Gr N (·∈gs)) O R∧Below w.heap.size w w':=by
 refine (chOf_any gv _ _ w h).mono ?_;rintro e w' ⟨cv,rfl,hc,hb⟩;rw [hg] at hc ⊢
 rcases hc with ⟨h0,_⟩ | ⟨_,n,gs',h1,h2,_,_,ov,rv,O,R,rfl,h3,h4,h5⟩
 ·exact absurd rfl h0
 ·obtain rfl:N=n:=by omega
  have:=map_ofN_inj h2;subst this;exact ⟨ov,rv,O,R,rfl,⟨h3,h4⟩,h5,hb⟩

theorem box2 (w:World) (x y:Value):CL (w.alloc (.cells #[x,y] 24)) w.heap.size 0 x∧CL (w.alloc (.cells #[x,y] 24)) w.heap.size 1 y :=
 ⟨⟨by rw [Rg.cellNew]; rfl,by simp⟩,⟨by rw [Rg.cellNew]; rfl,by simp⟩⟩
theorem RowsB.low {B:Nat} {w w':World} {v:Value} {ll:List (List Int)} (h:Rg.RowsB B w v ll) (hb:Below w.heap.size w w'):Rg.RowsB B w' v ll:=h.below hb
def bg (d:Int) (ll:List (List Int)):Bool:=lg ll || (decide (12<d) && decide (d≤64))
end Go.Proofs.YthehbckogieimaaGreat

namespace Go.Proofs.YthehbckogieimaaGreat
open Go.RowKit
open Go.Proofs
open Go.Shelf
open Go.Proofs.Cm (Tr)
attribute [local go_sem] Oper.semAt_some
abbrev EntIx (N:Nat) (tr:Tr):={ q:Nat × Nat // (q.1<q.2∧q.2<N)∧(tr q.1 q.2).isSome=true }
end Go.Proofs.YthehbckogieimaaGreat

namespace Go.Proofs.YthehbckogieimaaGreat
open Go.RowKit
open Go.Proofs
open Go.Proofs.Ob
open Go.Shelf
open Go.Proofs.Cm (Tr)
attribute [local go_sem] Oper.semAt_some
attribute [local irreducible] Go.Calls Go.wpList Go.wpListIn
def entV {n:Nat} (tr:Tr) (q:EntIx n tr):List Nat:=(tr q.1.1 q.1.2).getD []
theorem entV_at {n:Nat} {tr:Tr} (q:EntIx n tr):tr q.1.1 q.1.2=some (entV tr q):=by
 unfold entV;obtain ⟨u,hu⟩:=Option.isSome_iff_exists.1 q.2.2;rw [hu]; rfl
def PClosed (n:Nat) (tr:Tr):Prop:=∀ q r:EntIx n tr,(Cm.sfP n (Cm.idT n tr) n (Ma.mulN (entV tr q) (entV tr r))).1=n
end Go.Proofs.YthehbckogieimaaGreat

namespace Go.Proofs.YthehbckogieimaaGreat
open Go.RowKit
open Go.Proofs
open Go.Proofs.Cm (Tr)
attribute [local irreducible] Go.Calls Go.wpList
theorem tab_lt {n:Nat} {gs:List Nat→Prop} {tr:Tr} (h:Cm.TabOk n gs tr) {i p:Nat} {u:List Nat} (e:tr i p=some u):i<p:=by
 have hl:=h.lt i p u e
 have hne:p≠i:=fun h2=>by subst h2; rw [h.diag] at e; cases e
 have e2:Cm.idT n tr i p=some u:=by rw [Cm.idT_ne hne]; exact e
 have gu:=h.rp.gd i p u (Nat.zero_le _) hl.1 e2;have fu:=h.rp.fx i p u (Nat.zero_le _) hl.1 e2;have au:=h.rp.at_ i p u (Nat.zero_le _) hl.1 e2
 rcases Nat.lt_or_ge i p with h1 | h1
 ·exact h1
 ·exact absurd (Cm.ap_inj gu hl.2 hl.1 ((fu p (by omega)).trans au.symm)) hne
def SS (n:Nat) (tr:Tr) (l:List (List Nat)) (a b:Nat):Prop:=(Cm.sfP n (Cm.idT n tr) n (Ma.mulN (l.getD a []) (l.getD b []))).1=n
theorem PClosed.of {n:Nat} {gs:List Nat→Prop} {tr:Tr} (h:Cm.TabOk n gs tr) (hs:∀ a b,a<(ents n tr).length→b<(ents n tr).length→SS n tr (ents n tr) a b):PClosed n tr:=fun q r=>by
 obtain ⟨a,ha,ea⟩:=List.getElem_of_mem (mem_ents.2 ⟨q.1.1,q.1.2,by have:=q.2.1; omega,q.2.1.2,entV_at q⟩);obtain ⟨b,hb,eb⟩:=List.getElem_of_mem (mem_ents.2 ⟨r.1.1,r.1.2,by have:=r.2.1; omega,r.2.1.2,entV_at r⟩);have:=hs a b ha hb;unfold SS at this;rw [getD_li ha,getD_li hb,ea,eb] at this;exact this
theorem PClosed.ss {n:Nat} {gs:List Nat→Prop} {tr:Tr} (h:Cm.TabOk n gs tr) (hc:PClosed n tr) {a b:Nat} (ha:a<(ents n tr).length) (hb:b<(ents n tr).length):SS n tr (ents n tr) a b:=by
 unfold SS;rw [getD_li ha,getD_li hb];obtain ⟨i,p,hi,hp,e⟩:=mem_ents.1 (List.getElem_mem ha);obtain ⟨j,q,hj,hq,e2⟩:=mem_ents.1 (List.getElem_mem hb);have:=hc ⟨(i,p),⟨tab_lt h e,hp⟩,by show (tr i p).isSome=true; rw [e]; rfl⟩ ⟨(j,q),⟨tab_lt h e2,hq⟩,by show (tr j q).isSome=true; rw [e2]; rfl⟩;unfold entV at this;simp only [e,e2,Option.getD_some] at this;exact this
end Go.Proofs.YthehbckogieimaaGreat

namespace Go.Proofs.YthehbckogieimaaGreat
open Go.Proofs
open Go.Proofs.Cm (Tr TabOk Gr Gd Sd idT sfP)
def ins1 (n:Nat) (tr:Tr) (x:List Nat):Tr:=insT n tr (sfP n (idT n tr) n x)
structure TL (n:Nat) (gs:List Nat→Prop) (tr:Tr) (l:List (List Nat)):Prop where
 ok:TabOk n gs tr
 sd:∀ x∈l,Sd n (idT n tr) n x
theorem TL.nil (n:Nat) (gs:List Nat→Prop):TL n gs (fun _ _=>none) []:=⟨Cm.TabOk.nil0,fun x hx=>by simp at hx⟩
theorem TL.ins {n:Nat} {gs:List Nat→Prop} (hg:∀ s,gs s→Gd n s) {tr:Tr} {l:List (List Nat)} (h:TL n gs tr l) {x:List Nat} (hx:Gr n gs x):TL n gs (ins1 n tr x) (l++[x]):=by
 obtain ⟨h1,h2,h3,_⟩:=tab_ins hg h.ok hx;refine ⟨h1,fun y hy=>?_⟩
 rcases List.mem_append.1 hy with hy | hy
 ·exact Sd.mono (fun i p u _=>h2 i p u) (h.sd y hy)
 ·rw [List.mem_singleton] at hy; subst hy; exact h3
theorem sd_of {n:Nat} {gs:List Nat→Prop} (hg:∀ s,gs s→Gd n s) {tr:Tr} (h:TabOk n gs tr) {x:List Nat} (hx:Gr n gs x) (e:(sfP n (idT n tr) n x).1=n):Sd n (idT n tr) n x:=by
 have h3:=(tab_ins hg h hx).2.2.1
 have e2:insT n tr (sfP n (idT n tr) n x)=tr:=by unfold insT; rw [if_neg (by omega)]
 rwa [e2] at h3
theorem TL.closed {n:Nat} {gs:List Nat→Prop} (hg:∀ s,gs s→Gd n s) {tr:Tr} {l:List (List Nat)} (h:TL n gs tr l) (hl:∀ s,gs s→s∈l) (hc:PClosed n tr):Cm.IsTr n (Gr n gs) (idT n tr):=by
 refine (LE.start h.ok (fun s hs=>h.sd s (hl s hs))).done hg fun a b ha hb=>?_;unfold PrS;have h1:=hc.ss h.ok ha hb
 have hm:∀ {a:Nat} (ha:a<(ents n tr).length),Gr n gs ((ents n tr).getD a []):=fun {a} ha=>by
  rw [getD_li ha];obtain ⟨i,p,_,_,e⟩:=mem_ents.1 (List.getElem_mem ha);exact h.ok.mem _ _ _ e
 exact sd_of hg h.ok (.mul _ _ (hm ha) (hm hb)) h1
def pickV (x n:Int):Int:=if x.tmod n<0 then x.tmod n+n else x.tmod n
theorem pickV_range {x n:Int} (h0:0<n):0≤pickV x n∧pickV x n<n:=by
 have h2:=Int.tmod_lt_of_pos x h0
 have h3:-n<x.tmod n:=by
  have:=Int.lt_tmod_of_pos x h0;omega
 unfold pickV
 split <;> omega
def stepR (n:Nat) (st:List (List Nat) × Tr) (a b:Int):List (List Nat) × Tr :=
 (st.1.set (pickV a st.1.length).toNat (Ma.mulN (st.1.getD (pickV a st.1.length).toNat []) (st.1.getD (pickV b st.1.length).toNat [])),
  ins1 n st.2 (Ma.mulN (st.1.getD (pickV a st.1.length).toNat []) (st.1.getD (pickV b st.1.length).toNat [])))
def stR (n:Nat) (s0:List (List Nat) × Tr) (nums:List Int):Nat→List (List Nat) × Tr
 | 0=>s0
 | k+1=>stepR n (stR n s0 nums k) (nums.getD (2*k) 0) (nums.getD (2*k+1) 0)
theorem stR_len {n:Nat} {s0:List (List Nat) × Tr} {nums:List Int}:∀ k,(stR n s0 nums k).1.length=s0.1.length
 | 0=>rfl
 | k+1=>by
  show ((stR n s0 nums k).1.set _ _).length=_;rw [List.length_set,stR_len k]
structure RI (n:Nat) (gs:List Nat→Prop) (st:List (List Nat) × Tr):Prop where
 gr:∀ x∈st.1,Gr n gs x
 tl:∃ l,TL n gs st.2 l∧∀ s,gs s→s∈l
theorem getD_mem {l:List (List Nat)} {i:Nat} (h:i<l.length):l.getD i []∈l:=by rw [getD_li h]; exact List.getElem_mem h
theorem RI.step {n:Nat} {gs:List Nat→Prop} (hg:∀ s,gs s→Gd n s) {st:List (List Nat) × Tr} (h:RI n gs st) (h0:0<st.1.length) (a b:Int):RI n gs (stepR n st a b):=by
 have ha:=pickV_range (x:=a) (n:=st.1.length) (by omega);have hb:=pickV_range (x:=b) (n:=st.1.length) (by omega);have hy:Gr n gs (Ma.mulN (st.1.getD (pickV a st.1.length).toNat []) (st.1.getD (pickV b st.1.length).toNat [])):=.mul _ _ (h.gr _ (getD_mem (by omega))) (h.gr _ (getD_mem (by omega)));refine ⟨fun x hx=>?_,?_⟩
 ·rcases List.mem_or_eq_of_mem_set hx with h1 | h1
  ·exact h.gr x h1
  ·rw [h1]; exact hy
 ·obtain ⟨l,h1,h2⟩:=h.tl
  exact ⟨_,h1.ins hg hy,fun s hs=>List.mem_append.2 (.inl (h2 s hs))⟩
theorem RI.all {n:Nat} {gs:List Nat→Prop} (hg:∀ s,gs s→Gd n s) {s0:List (List Nat) × Tr} (h:RI n gs s0) (h0:0<s0.1.length) (nums:List Int):∀ k,RI n gs (stR n s0 nums k)
 | 0=>h
 | k+1=>(RI.all hg h h0 nums k).step hg (by rw [stR_len]; exact h0) _ _
def tabL (n:Nat) (l:List (List Nat)):Tr:=l.foldl (ins1 n) (fun _ _=>none)
theorem TL.fold {n:Nat} {gs:List Nat→Prop} (hg:∀ s,gs s→Gd n s):∀ (l pre:List (List Nat)) (tr:Tr),TL n gs tr pre→(∀ x∈l,Gr n gs x)→TL n gs (l.foldl (ins1 n) tr) (pre++l)
 | [],pre,tr,h,_=>by rw [List.append_nil]; exact h
 | x :: l,pre,tr,h,hx=>by
  have:=TL.fold hg l (pre++[x]) (ins1 n tr x) (h.ins hg (hx x (by simp))) fun y hy=>hx y (by simp [hy]);rw [List.append_assoc] at this;exact this
theorem TL.tabL {n:Nat} {gs:List Nat→Prop} (hg:∀ s,gs s→Gd n s) (l:List (List Nat)) (h:∀ x∈l,Gr n gs x):TL n gs (tabL n l) l:=TL.fold hg l [] _ (TL.nil n gs) h
def startR (n:Nat) (gs:List (List Nat)):List (List Nat) × Tr:=(gs++gs.map Ma.invN,tabL n gs)
theorem RI.start {n:Nat} {gs:List (List Nat)} (hg:∀ s∈gs,Gd n s):RI n (·∈gs) (startR n gs):=by
 refine ⟨fun x hx=>?_,gs,TL.tabL hg gs fun x hx=>.gen x hx,fun s hs=>hs⟩
 rcases List.mem_append.1 hx with h | h
 ·exact .gen x h
 ·obtain ⟨y,hy,rfl⟩:=List.mem_map.1 h
  exact (Gr.isG hg).inv y (.gen y hy)
end Go.Proofs.YthehbckogieimaaGreat

namespace Go.Proofs.YthehbckogieimaaGreat
open Go.RowKit
open Go.Proofs
open Go.Proofs.Cm (Tr)
theorem RowG.push {F M:Nat→Prop} {W:World} {v:Value} {l:List (List Nat)} (h:RowG F M W v l) {u:Value} {x:List Nat} (hu:FP F W u x) (hs:∃ a m c,u=.slice a m c) (hF:∀ k,F k→k<W.heap.size) (hM:∀ k,M k→k<W.heap.size) (hn:l.length<1000000) (ty:TypeId) :
  ∃ a c X,(Builtin.append_ #[22,22] ty #[v,.slice (some ⟨W.heap.size,0,none⟩) 1 1]).run Tryz.prog (W.alloc (.cells #[u] 51))=.ok (.slice a (l.length+1) c) X∧RowG F M X (.slice a (l.length+1) c) (l++[x])∧Rg.Kp (fun k=>v.ownBlock=some k) W X:=by
 obtain ⟨B,us,h0,h1,h2⟩:=h.own;obtain ⟨a0,m0,c0,rfl⟩:=hs;have hb:Below W.heap.size W (W.alloc (.cells #[.slice a0 m0 c0] 51)):=(Below.refl _ _).alloc (Nat.le_refl _) _;obtain ⟨v',X,r1,r2,r3,r4,a,c,rfl⟩:=app_run (P:=Tryz.prog) slPerms ty (Rg.row_below h1 hb) (Nat.le_trans h0 hb.size) W.heap.size 1 (u:=.slice a0 m0 c0) (by rw [Rg.cellNew]; rfl) rfl hn;have hk:Rg.Kp (fun k=>v.ownBlock=some k) W X:=Rg.Kp.trans (M:=fun k=>v.ownBlock=some k) ((Rg.Kp.of_below hb).weak fun _=>False.elim) (Rg.Kp.of_grown r3 fun _ e=>e) (fun _ _ e=>e);have hg:∀ k,F k→¬ v.ownBlock=some k:=fun k g e=>(h.off k e).1 g;refine ⟨a,c,X,r1,⟨⟨B,us++[.slice a0 m0 c0],Nat.le_trans h0 hk.size,by rw [List.length_append]; exact r2,by rw [List.map_append]; exact FElts.snoc (h2.kp hk hg) (Rg.FI.kp hu hk hg)⟩,fun k e=>?_⟩,hk⟩
 rcases r4 with r4 | r4
 ·exact h.off k (by rw [← r4]; exact e)
 ·rw [r4] at e
  injection e with e
  have e2:(W.alloc (.cells #[.slice a0 m0 c0] 51)).heap.size=W.heap.size+1:=by simp
  exact ⟨fun g=>by have:=hF _ g; omega,fun g=>by have:=hM _ g; omega⟩
theorem RowG.set {F M:Nat→Prop} {W:World} {g c:Nat} {l:List (List Nat)} (h:RowG F M W (.slice (some ⟨g,0,none⟩) l.length c) l) (i:Nat) {u:Value} {x:List Nat} (hu:FP F W u x) :
  RowG F M (W.setCell ⟨g,i,none⟩ u) (.slice (some ⟨g,0,none⟩) l.length c) (l.set i x)∧Rg.Kp (fun k=>k=g) W (W.setCell ⟨g,i,none⟩ u):=by
 obtain ⟨B,us,h0,h1,h2⟩:=h.own;have hk:Rg.Kp (fun k=>k=g) W (W.setCell ⟨g,i,none⟩ u):=Rg.Kp.of_setCell rfl;have hg:∀ k,F k→¬ k=g:=fun k e e2=>(h.off g rfl).1 (e2▸e);have h2':=h2.kp hk hg;refine ⟨⟨⟨B,us.set i u,Nat.le_trans h0 hk.size,?_,?_,fun j hj hj2=>?_⟩,h.off⟩,hk⟩
 ·rw [List.length_set]; exact (h1.stored i u).1
 ·rw [List.length_set,List.length_map,List.length_set,← List.length_map (f:=Ma.ofN)]; exact h2.1
 ·have e1:j<us.length:=by rwa [List.length_set] at hj
  have e2:j<l.length:=by rwa [List.length_map,List.length_set] at hj2
  by_cases e:i=j
  ·subst e
   simp only [List.getElem_set_self,List.getElem_map];exact Rg.FI.kp hu hk hg
  ·simp only [List.getElem_set_ne e,List.getElem_map]
   have:=h2'.2 j e1 (by rw [List.length_map]; exact e2)
   simpa using this
theorem RowG.frozen {F M:Nat→Prop} {W:World} {g n c:Nat} {l:List (List Nat)} (h:RowG F M W (.slice (some ⟨g,0,none⟩) n c) l) (hn:n=l.length) (i:Nat):W.frozen? ⟨g,i,none⟩=false:=by
 subst hn;obtain ⟨B,us,h0,h1,h2⟩:=h.own;exact h1.frozenAt i
end Go.Proofs.YthehbckogieimaaGreat

namespace Go.Proofs.YthehbckogieimaaGreat
open Go.RowKit
open Go.Proofs
open Go.Proofs.Cm (Tr)
attribute [local irreducible] Go.Calls Go.wpList
theorem KI.weak {F F' M M':Nat→Prop} {w w':World} (h:KI F w F' w' M) (hM:∀ z,M z→M' z):KI F w F' w' M':=⟨h.kg,h.kp.weak hM,h.new⟩
theorem KI.trans {F F' F'' M:Nat→Prop} {w w' w'':World} (h:KI F w F' w' M) (h':KI F' w' F'' w'' M):KI F w F'' w'' M :=
 ⟨h.kg.trans h'.kg,Rg.Kp.trans (M:=M) h.kp h'.kp (fun _ _ e=>e),fun k hk=>by
  rcases h'.new k hk with e | e
  ·exact h.new k e
  ·exact .inr (Nat.le_trans h.kp.size e)⟩
end Go.Proofs.YthehbckogieimaaGreat

namespace Go.Proofs.YthehbckogieimaaGreat
open Go.RowKit
open Go.Proofs
open Go.Proofs.Ob
open Go.Proofs.Cm (Tr TabOk)
attribute [local irreducible] Go.Calls Go.wpList
theorem RowG.nil (F M:Nat→Prop) (W:World):RowG F M W (.slice none 0 0) []:=⟨⟨W.heap.size,[],Nat.le_refl _,World.ownsRow_nil _ _ _ _,Rg.FElts.nil _ _⟩,fun k e=>by simp [Value.ownBlock] at e⟩
end Go.Proofs.YthehbckogieimaaGreat

namespace Go.Proofs.YthehbckogieimaaGreat
open Go.RowKit
open Go.Proofs
open Go.Proofs.Cm (Tr)
theorem RowG.below {F M:Nat→Prop} {W W':World} {v:Value} {l:List (List Nat)} (h:RowG F M W v l) (hb:Below W.heap.size W W'):RowG F M W' v l:=by
 obtain ⟨B,us,g0,g1,g2⟩:=h.own;exact ⟨⟨B,us,Nat.le_trans g0 hb.size,Rg.row_below g1 hb,g2.kp (M:=fun _=>False) (Rg.Kp.of_below hb) (fun _ _=>id)⟩,h.off⟩
theorem KG.bel {F0 F:Nat→Prop} {w0 w w':World} (h:KG F0 w0 F w) (hb:Below w.heap.size w w'):KG F0 w0 F w':=h.kf' (KF.of_below hb)
end Go.Proofs.YthehbckogieimaaGreat

set_option linter.unusedVariables false
namespace Go.Proofs.YthehbckogieimaaGreat
open Go.RowKit
open Go.Proofs
open Go.Proofs.Ob
open Go.Shelf
attribute [local irreducible] Go.Calls Go.wpList
def MK (tc:Nat) (ov rv:Value) (z:Nat):Prop:=z=tc∨ov.ownBlock=some z∨rv.ownBlock=some z
theorem row_isCells {W:World} {B:Nat} {e:TypeId} {size:Nat} {v:Value} {n:Nat} {xs:List Value} (h:W.ownsRow B e size v n xs):∀ k,v.ownBlock=some k→∃ o:Obj,W.heap[k]?=some o∧o.isCells=true:=fun k e1=>by
 obtain ⟨_,h3⟩:=h
 rcases h3 with ⟨h4,_⟩ | ⟨g,cap,cur,h4,_,h5,_⟩
 ·rw [h4] at e1; simp [Value.ownBlock] at e1
 ·rw [h4] at e1
  simp [Value.ownBlock] at e1;subst e1;exact ⟨_,h5,rfl⟩
theorem cell_isCells {W:World} {a:Addr} {v:Value} (h:W.cell? a=some v):∃ o:Obj,W.heap[a.block]?=some o∧o.isCells=true:=by
 unfold World.cell? at h
 cases e:W.heap[a.block]? with
 | none=>rw [e] at h; cases h
 | some o =>
  rw [e] at h;refine ⟨o,rfl,?_⟩
  cases o <;> simp at h <;> rfl
theorem ChR.isCells {B:Nat} {W:World} {tc:Nat} {c0 c1 c2 ov rv:Value} {O:List (List Int)} {R:List (List (List Int))} (h:ChR B W tc c0 c1 c2 ov rv O R):∀ z,MK tc ov rv z→∃ o:Obj,W.heap[z]?=some o∧o.isCells=true:=by
 obtain ⟨us,vs,h1,h2,_⟩:=h.own
 rintro z (e | e | e)
 ·subst e; exact cell_isCells h.tri.c0
 ·exact row_isCells h1 z e
 ·exact row_isCells h2 z e
end Go.Proofs.YthehbckogieimaaGreat

namespace Go.Proofs.YthehbckogieimaaGreat
open Go.RowKit
open Go.Proofs
open Go.Proofs.Ob
attribute [local irreducible] Go.Calls Go.wpList
theorem infoIntsV:(Tryz.prog.info? 36).map (fun i=>(i.zero,i.size,i.bytes))=some (some (.slice none 0 0),1,24):=by kernel_rfl
end Go.Proofs.YthehbckogieimaaGreat

namespace Go.Proofs.YthehbckogieimaaGreat
open Go.RowKit
open Go.Proofs
open Go.Proofs.Ob
open Go.Proofs.Cm (Gd)
attribute [local irreducible] Go.Calls Go.wpList
def RwAt (w:World) (g n:Nat) (f:Nat→Int):Prop:=g<w.heap.size∧(∀ i,i<n→w.cell? ⟨g,i,none⟩=some (.int .i64 (f i)))∧∀ i,w.frozen? ⟨g,i,none⟩=false
theorem RwAt.congr {w:World} {g n:Nat} {f f':Nat→Int} (h:RwAt w g n f) (e:∀ i,i<n→f i=f' i):RwAt w g n f' :=
 ⟨h.1,fun i hi=>by rw [← e i hi]; exact h.2.1 i hi,h.2.2⟩
theorem RwAt.set {w:World} {g n:Nat} {f:Nat→Int} (h:RwAt w g n f) (k:Nat) (v:Int) (hk:k<n):RwAt (w.setCell ⟨g,k,none⟩ (.int .i64 v)) g n (fun i=>if i=k then v else f i):=by
 refine ⟨by simpa using h.1,fun i hi=>?_,fun i=>by rw [World.frozen?_setCell]; exact h.2.2 i⟩;show _=some (Value.int .i64 (if i=k then v else f i))
 by_cases e:i=k
 ·subst e
  rw [if_pos rfl];exact World.cell?_setCell_same (h:=h.2.1 i hi) ..
 ·rw [if_neg e,World.cell?_setCell_other (h:=by intro h; injection h with h1 h2; omega) ..]
  exact h.2.1 i hi
theorem RwAt.kp {M:Nat→Prop} {w w':World} {g n:Nat} {f:Nat→Int} (h:RwAt w g n f) (hk:Rg.Kp M w w') (hM:¬ M g):RwAt w' g n f :=
 ⟨Nat.lt_of_lt_of_le h.1 hk.size,fun i hi=>(World.cell?_of_block (a:=⟨g,i,none⟩) (hk.block g h.1 hM)).trans (h.2.1 i hi),fun i=>(World.frozen?_of_block (a:=⟨g,i,none⟩) (hk.block g h.1 hM)).trans (h.2.2 i)⟩
theorem RwAt.below {w w':World} {g n:Nat} {f:Nat→Int} (h:RwAt w g n f) (hb:Below w.heap.size w w'):RwAt w' g n f:=h.kp (M:=fun _=>False) (Rg.Kp.of_below hb) id
theorem RwAt.np {w:World} {g n cap:Nat} {f:Nat→Int} (h:RwAt w g n f) (l:List Nat) (hl:l.length=n) (hc:n≤cap) (hm:cap≤maxLen) (hn:n≤1000) (e:∀ i (hi:i<l.length),f i=((l[i]:Nat):Int)):Rg.NP w (.slice (some ⟨g,0,none⟩) n cap) l:=by
 refine Rg.Ints.mk (by simp [Ma.ofN,hl]) h.1 (by simp [Ma.ofN]; omega) hm (by simp [Ma.ofN]; omega) fun i hi=>?_
 have hi':i<l.length:=by simpa [Ma.ofN] using hi
 rw [Nat.zero_add,h.2.1 i (by omega),e i hi'];simp [Ma.ofN]
theorem kitOne_row (n:Nat) (w:World) (h1:1≤n) (hn:n≤1000) :
  Calls Tryz.prog 101 #[.int .i64 n] w fun e w'=>∃ g cap,e=.returned (.slice (some ⟨g,0,none⟩) n cap)∧w.heap.size≤g∧n≤cap∧cap≤maxLen∧RwAt w' g n (fun i=>(i:Int))∧Below w.heap.size w w':=by
 go_enter Tryz.func101,Tryz.ntmps101
 go_wp2
 go_loopw [3,4] (fun v i wr=>∃ k:Nat,k≤n∧i=.int .i64 k∧Hid (wr.ownsRow w.heap.size 3 1 v k (ivs (Ma.oneN k)))∧Hid (Below w.heap.size w wr)) (fun _ i _=>n - (intOf i).toNat)
 case atStart=>exact ⟨0,by omega,rfl,World.ownsRow_nil _ _ _ _,Below.refl _ _⟩
 case round =>
  obtain ⟨k,hk,rfl,hs,hbel⟩:=hrel
  by_cases hlt:k<n
  ·go_wp2_with (at_builtin; refine Rg.app1 rfl _ _ 51 rfl slPerm hs.out hbel.out _ (by simp [Value.oneCell']) rfl rfl (by omega) ?_; intro v' w1 hs1 hb1 _ _ _)
   go_roundw
   case rel=>exact ⟨k+1,by omega,by go_num,by rw [show Ma.oneN (k+1)=Ma.oneN k++[k] from List.range_succ,ivs_snoc]; exact hs1,hb1⟩
   case measure=>simp [intOf]; omega
  ·obtain rfl:k=n:=by omega
   go_wp2;go_ret;have ho:=hs.out
   obtain ⟨_,⟨_,h0⟩ | ⟨g,cap,cur,rfl,hg,hc,h3,h4,h5,h6⟩⟩:=hs.out
   ·omega
   ·refine ⟨g,cap,rfl,hg,h3,h4,⟨(ho.lt g rfl).2,fun i hi=>?_,fun i=>ho.frozenAt i⟩,hbel.out⟩
    have:=ho.cellAt i (by omega);rw [this];simp [ivs,Ma.oneN,hi]

theorem RwAt.up {w w':World} {g n:Nat} {f:Nat→Int} (h:RwAt w g n f) (hb:Below w.heap.size w w'):RwAt w' g n f:=h.below hb
structure FZ (w:World) (b o:Nat):Prop where
 f:w.frozen? ⟨b,o,none⟩=false
 lt:b<w.heap.size
theorem FZ.below {w w':World} {b o:Nat} (h:FZ w b o) (hb:Below w.heap.size w w'):FZ w' b o:=⟨(hb.frozen (p:=⟨b,o,none⟩) h.lt).trans h.f,Nat.lt_of_lt_of_le h.lt hb.size⟩
theorem FZ.kp {M:Nat→Prop} {w w':World} {b o:Nat} (h:FZ w b o) (hk:Rg.Kp M w w') (hM:¬ M b):FZ w' b o:=⟨(World.frozen?_of_block (a:=⟨b,o,none⟩) (hk.block b h.lt hM)).trans h.f,Nat.lt_of_lt_of_le h.lt hk.size⟩
def GM (tk gb rb z:Nat):Prop:=z=tk∨z=gb∨z=rb
end Go.Proofs.YthehbckogieimaaGreat

namespace Go.Proofs.YthehbckogieimaaGreat
open Go.RowKit
open Go.Proofs
attribute [local irreducible] Go.Calls Go.wpStill
def lessL:List Int→List Int→Bool
 | [],[]=>false
 | [],_ :: _=>true
 | _ :: _,[]=>false
 | x :: a,y :: b=>if x=y then lessL a b else decide (x<y)
theorem lessL_irr:∀ a:List Int,lessL a a=false
 | []=>rfl
 | x :: a=>by rw [lessL,if_pos rfl]; exact lessL_irr a
theorem lessL_trans:∀ {a b c:List Int},lessL a b=true→lessL b c=true→lessL a c=true
 | [],[],_,h,_=>by simp [lessL] at h
 | [],_ :: _,[],_,h=>by simp [lessL] at h
 | [],_ :: _,_ :: _,_,_=>rfl
 | _ :: _,[],_,h,_=>by simp [lessL] at h
 | _ :: _,_ :: _,[],_,h=>by simp [lessL] at h
 | x :: a,y :: b,z :: c,h,h'=>by
  rw [lessL] at h h' ⊢
  by_cases e1:x=y
  ·rw [if_pos e1] at h
   by_cases e2:y=z
   ·rw [if_pos e2] at h'; rw [if_pos (e1.trans e2)]; exact lessL_trans h h'
   ·rw [if_neg e2] at h'; rw [if_neg (by omega)]; simp at h' ⊢; omega
  ·rw [if_neg e1] at h
   by_cases e2:y=z
   ·rw [if_neg (by omega)]; simp at h ⊢; omega
   ·rw [if_neg e2] at h'; simp at h h'; rw [if_neg (by omega)]; simp; omega
theorem lessL_total:∀ {a b:List Int},lessL a b=false→a≠b→lessL b a=true
 | [],[],_,h=>absurd rfl h
 | [],_ :: _,h,_=>by simp [lessL] at h
 | _ :: _,[],_,_=>rfl
 | x :: a,y :: b,h,hn=>by
  rw [lessL] at h ⊢
  by_cases e:x=y
  ·rw [if_pos e] at h; rw [if_pos e.symm]
   exact lessL_total h (fun e2=>hn (by rw [e,e2]))
  ·rw [if_neg e] at h; rw [if_neg (by omega)]; simp at h ⊢; omega
theorem lessL_drop {a b:List Int} {k:Nat} (ha:k<a.length) (hb:k<b.length):lessL (a.drop k) (b.drop k)=if a[k]=b[k] then lessL (a.drop (k+1)) (b.drop (k+1)) else decide (a[k]<b[k]):=by
 rw [List.drop_eq_getElem_cons ha,List.drop_eq_getElem_cons hb,lessL]
theorem lessL_end {a b:List Int} {k:Nat} (h:¬ (k<a.length∧k<b.length)) (hk:k≤a.length) (hk2:k≤b.length):lessL (a.drop k) (b.drop k)=decide (a.length<b.length):=by
 by_cases h1:k<a.length
 ·have h2:k=b.length:=by omega
  rw [List.drop_eq_getElem_cons h1,List.drop_of_length_le (l:=b) (by omega)];simp [lessL]; omega
 ·rw [List.drop_of_length_le (l:=a) (by omega)]
  by_cases h2:k<b.length
  ·rw [List.drop_eq_getElem_cons h2]; simp [lessL]; omega
  ·rw [List.drop_of_length_le (l:=b) (by omega)]; simp [lessL]; omega
def Asc (L:List (List Int)):Prop:=∀ i j (hi:i<L.length) (hj:j<L.length),i<j→lessL L[i] L[j]=true
structure Place (L:List (List Int)) (x:List Int) (lo:Nat):Prop where
 le:lo≤L.length
 lt:∀ i (h:i<L.length),i<lo→lessL L[i] x=true
 ge:∀ i (h:i<L.length),lo≤i→lessL L[i] x=false
theorem Place.mem {L:List (List Int)} {x:List Int} {lo:Nat} (h:Place L x lo) (hs:Asc L):x∈L↔∃ hl:lo<L.length,L[lo]=x:=by
 constructor
 ·intro hx
  obtain ⟨j,hj,rfl⟩:=List.getElem_of_mem hx
  have h1:¬ j<lo:=fun e=>by have:=h.lt j hj e; rw [lessL_irr] at this; cases this
  have h2:¬ lo<j:=fun e=>by
   have:=hs lo j (by omega) hj e;have h3:=h.ge lo (by omega) (Nat.le_refl _);rw [this] at h3; cases h3
  obtain rfl:lo=j:=by omega
  exact ⟨hj,rfl⟩
 ·rintro ⟨hl,rfl⟩; exact List.getElem_mem hl
def putIn (L:List (List Int)) (lo:Nat) (x:List Int):List (List Int):=L.take lo++(x :: L.drop lo)
theorem asc_iff (L:List (List Int)):Asc L↔L.Pairwise (fun a b=>lessL a b=true):=by
 rw [List.pairwise_iff_getElem];exact ⟨fun h i j hi hj hij=>h i j hi hj hij,fun h i j hi hj hij=>h i j hi hj hij⟩
theorem asc_putIn {L:List (List Int)} {lo:Nat} {x:List Int} (h:Place L x lo) (hs:Asc L) (hx:x∉L):Asc (putIn L lo x):=by
 rw [asc_iff] at hs ⊢;unfold putIn;rw [← List.take_append_drop lo L,List.pairwise_append] at hs;obtain ⟨h1,h2,h3⟩:=hs;rw [List.pairwise_append,List.pairwise_cons];refine ⟨h1,⟨fun b hb=>?_,h2⟩,fun a ha b hb=>?_⟩
 ·obtain ⟨j,hj,rfl⟩:=List.getElem_of_mem hb
  rw [List.getElem_drop];refine lessL_total (h.ge _ (by simp at hj; omega) (by omega)) (fun e=>hx ?_);rw [← e]; exact List.getElem_mem _
 ·rcases List.mem_cons.1 hb with rfl | hb
  ·obtain ⟨j,hj,rfl⟩:=List.getElem_of_mem ha
   rw [List.getElem_take];exact h.lt j (by simp at hj; omega) (by simp at hj; omega)
  ·exact h3 a ha b hb
end Go.Proofs.YthehbckogieimaaGreat

namespace Go.Proofs.YthehbckogieimaaGreat
open Go.RowKit
open Go.Proofs
attribute [local irreducible] Go.Calls Go.wpList
def cmpI (x y:Int):Int:=if x<y then -1 else if y<x then 1 else 0
def cmpL:List Int→List Int→Int
 | [],[]=>0
 | [],_ :: _=>-1
 | _ :: _,[]=>1
 | x :: a,y :: b=>if cmpI x y=0 then cmpL a b else cmpI x y
theorem cmpL_lt:∀ (a b:List Int),decide (cmpL a b<0)=lessL a b
 | [],[]=>rfl
 | [],_ :: _=>rfl
 | _ :: _,[]=>rfl
 | x :: a,y :: b=>by
  unfold cmpL lessL cmpI
  by_cases h1:x=y
  ·subst h1
   simp only [Int.lt_irrefl,if_false,if_true];exact cmpL_lt a b
  ·by_cases h2:x<y
   ·simp [h1,h2]
   ·have h3:y<x:=by omega
    simp [h1,h2,h3]
theorem cmpL_drop {a b:List Int} {k:Nat} (ha:k<a.length) (hb:k<b.length):cmpL (a.drop k) (b.drop k)=if cmpI a[k] b[k]=0 then cmpL (a.drop (k+1)) (b.drop (k+1)) else cmpI a[k] b[k]:=by
 rw [List.drop_eq_getElem_cons ha,List.drop_eq_getElem_cons hb,cmpL]
theorem cmpL_one {a b:List Int} {k:Nat} (ha:k<a.length) (hb:b.length≤k):cmpL (a.drop k) (b.drop k)=1:=by
 rw [List.drop_eq_getElem_cons ha,List.drop_of_length_le (l:=b) hb,cmpL]
theorem cmpL_end {a b:List Int} {k:Nat} (ha:a.length≤k) (hb:k≤b.length) (hk:k≤a.length):cmpL (a.drop k) (b.drop k)=if a.length<b.length then -1 else 0:=by
 have e:k=a.length:=by omega
 subst e;rw [List.drop_of_length_le (l:=a) (Nat.le_refl _)]
 by_cases h:a.length<b.length
 ·rw [List.drop_eq_getElem_cons h,if_pos h,cmpL]
 ·rw [List.drop_of_length_le (l:=b) (by omega),if_neg h,cmpL]
theorem cmpCmp_any (x y:Int) (w:World):Calls Tryz.prog 172 #[.int .i64 x,.int .i64 y] w fun e w'=>e=.returned (.int .i64 (cmpI x y))∧w'=w:=by
 by_cases h1:x<y
 ·go_enter Tryz.func172,Tryz.ntmps172
  go_wp2;go_ret;exact ⟨by rw [show cmpI x y = -1 by unfold cmpI; rw [if_pos (by omega)]]; rfl,rfl⟩
 ·by_cases h2:y<x
  ·go_enter Tryz.func172,Tryz.ntmps172
   go_wp2;go_ret;exact ⟨by rw [show cmpI x y=1 by unfold cmpI; rw [if_neg (by omega),if_pos (by omega)]]; rfl,rfl⟩
  ·go_enter Tryz.func172,Tryz.ntmps172
   go_wp2;go_ret;exact ⟨by rw [show cmpI x y=0 by unfold cmpI; rw [if_neg (by omega),if_neg (by omega)]]; rfl,rfl⟩
theorem Compare_any (v1 v2:Value) (l1 l2:List Int) (w:World) (h1:Rg.Ints w v1 l1) (h2:Rg.Ints w v2 l2) :
  Calls Tryz.prog 90 #[v1,v2] w fun e w'=>e=.returned (.int .i64 (cmpL l1 l2))∧w'=w:=by
 obtain ⟨a1,c1,rfl,n1,m1,_,k1⟩:=h1.shape;obtain ⟨a2,c2,rfl,n2,m2,_,k2⟩:=h2.shape;clear h1 h2;have K1:=ι k1;have K2:=ι k2;clear k1 k2
 go_enter Tryz.func90,Tryz.ntmps90
 go_wp2
 go_loopw [11] (fun v wr=>∃ i:Nat,v=.int .i64 i∧i≤l1.length∧i≤l2.length∧Hid (w=wr)∧Hid (cmpL (l1.drop i) (l2.drop i)=cmpL l1 l2)) (fun v _=>l1.length - (intOf v).toNat)
 case atStart=>exact ⟨0,rfl,by omega,by omega,rfl,rfl⟩
 case round =>
  obtain ⟨i,rfl,hi,hi2,hw,hs⟩:=hrel;have hw2:=hw.out;subst hw2;clear hw
  by_cases hlt:i<l1.length
  ·by_cases hlt2:i<l2.length
   ·obtain ⟨b1,o1,rfl,hb1,d1⟩:=K1.out (by omega)
    obtain ⟨b2,o2,rfl,hb2,d2⟩:=K2.out (by omega);have x1:=d1 i hlt;have x2:=d2 i hlt2;have hd:=cmpL_drop hlt hlt2;generalize l1[i]=x at *;generalize l2[i]=y at *;have Hd:=ι hd;have HC:=ι (cmpCmp_any x y w);clear d1 d2 hd;obtain ⟨c,hc⟩:∃ c,Hid (cmpI x y=c):=⟨_,ι rfl⟩;rw [hc.out] at HC
    have hge:¬ (l2.length:Int)≤(i:Int):=by omega
    by_cases he:c=0
    ·subst he
     go_wp2_with (go_at_call 172; refine HC.out.mono ?_; rintro e w' ⟨rfl,rfl⟩)
     go_roundw
     case rel=>exact ⟨i+1,by go_num,by omega,by omega,by first | exact ι rfl | exact ι trivial,ι (by have:=hs.out; rw [Hd.out,if_pos hc.out] at this; exact this)⟩
     case measure=>simp [intOf]; omega
    ·have HR:=ι (show c=cmpL l1 l2 by rw [← hs.out,Hd.out,if_neg (by rw [hc.out]; exact he),hc.out])
     go_wp2_with (go_at_call 172; refine HC.out.mono ?_; rintro e w' ⟨rfl,rfl⟩)
     go_ret;exact ⟨by rw [← HR.out]; rfl,rfl⟩
   ·have hge:(l2.length:Int)≤(i:Int):=by omega
    obtain ⟨b1,o1,rfl,hb1,d1⟩:=K1.out (by omega);have x1:=d1 i hlt;generalize l1[i]=x at *;clear d1;go_wp2;go_ret;exact ⟨by rw [← hs.out,cmpL_one hlt (by omega)]; rfl,rfl⟩
  ·have he:=cmpL_end (a:=l1) (b:=l2) (k:=i) (by omega) hi2 hi
   have HE:=ι (he.symm.trans hs.out);clear he
   by_cases hl:l1.length<l2.length
   ·have hlN:(l1.length:Int)<(l2.length:Int):=by omega
    go_wp2;go_ret;exact ⟨by rw [← HE.out,if_pos (by omega)]; rfl,rfl⟩
   ·have hlN:¬ (l1.length:Int)<(l2.length:Int):=by omega
    go_wp2;go_ret;exact ⟨by rw [← HE.out,if_neg (by omega)]; rfl,rfl⟩
end Go.Proofs.YthehbckogieimaaGreat

namespace Go.Proofs.YthehbckogieimaaGreat
open Go.RowKit
open Go.Proofs
open Go.Proofs.Ob
open Go.Proofs.Cm (Gd Gr)
attribute [local irreducible] Go.Calls Go.wpList
theorem FP.nil0 (F:Nat→Prop) (w:World):FP F w (.slice none 0 0) []:=⟨none,0,rfl,Nat.le_refl _,Nat.zero_le _,Nat.zero_le _,fun h=>absurd h (Nat.lt_irrefl 0)⟩
end Go.Proofs.YthehbckogieimaaGreat

namespace Go.Proofs.YthehbckogieimaaGreat
open Go.RowKit
open Go.Proofs
open Go.Proofs.Cm (Gd Gr ap)
attribute [local irreducible] Go.Calls Go.wpList
theorem kp_below {B:Nat} {M:Nat→Prop} {W0 W X:World} (hb:Below B W0 W) (hB:B≤W.heap.size) (hk:Rg.Kp M W X) (hM:∀ k,M k→B≤k):Below B W0 X :=
 hb.trans ⟨hk.os,hk.tape,hk.output,hk.size,fun k h=>hk.block k (Nat.lt_of_lt_of_le h hB) fun e=>Nat.lt_irrefl _ (Nat.lt_of_lt_of_le h (hM k e))⟩
theorem FP.own {F:Nat→Prop} {W W':World} {v:Value} {x:List Nat} {m:Nat} (h:W'.ownsRow W.heap.size 3 1 v m ((Ma.ofN x).map (Value.int .i64))) (hm:m≤1000000000):FP (Fup F W W') W' v x :=
 Rg.FVals.of (Rg.Vals.of_row h hm) (fun k e=>.inr (h.lt k e))
theorem cell_kp {M:Nat→Prop} {W X:World} {b o:Nat} {u:Value} (h:W.cell? ⟨b,o,none⟩=some u) (hk:Rg.Kp M W X) (hM:¬ M b):X.cell? ⟨b,o,none⟩=some u:=(World.cell?_of_block (a:=⟨b,o,none⟩) (hk.block b (lt_of_cell h) hM)).trans h
end Go.Proofs.YthehbckogieimaaGreat

namespace Go.Proofs.YthehbckogieimaaGreat
open Go.RowKit
open Go.Proofs
open Go.Proofs.Ob
attribute [local irreducible] Go.Calls Go.wpList
structure RowJ (B:Nat) (F M:Nat→Prop) (W:World) (v:Value) (l:List (List Int)):Prop where
 size:B≤W.heap.size
 own:∃ us,W.ownsRow B 36 1 v l.length us∧Rg.FElts F W us l
 off:∀ k,v.ownBlock=some k→¬ F k∧¬ M k
theorem RowJ.lt {B:Nat} {F M:Nat→Prop} {W:World} {v:Value} {l:List (List Int)} (h:RowJ B F M W v l):∀ k,v.ownBlock=some k→B≤k∧k<W.heap.size:=fun k e=>by
 obtain ⟨us,h1,h2⟩:=h.own;exact h1.lt k e
theorem RowJ.shape {B:Nat} {F M:Nat→Prop} {W:World} {v:Value} {l:List (List Int)} (h:RowJ B F M W v l):∃ a c,v=.slice a l.length c:=by
 obtain ⟨us,h1,h2⟩:=h.own;exact Rg.row_shape h1
theorem RowJ.nil (B:Nat) (F M:Nat→Prop) (W:World) (hB:B≤W.heap.size):RowJ B F M W (.slice none 0 0) [] :=
 ⟨hB,⟨[],World.ownsRow_nil _ _ _ _,Rg.FElts.nil _ _⟩,fun k e=>by simp [Value.ownBlock] at e⟩
theorem RowJ.rows {B:Nat} {F M:Nat→Prop} {W:World} {v:Value} {l:List (List Int)} (h:RowJ B F M W v l) (hl:l.length≤1000000000):Rg.Rows W v l:=by
 obtain ⟨us,h1,h2⟩:=h.own;exact Rg.Rows.of_row h1 hl h2.1 (fun i a b=>(h2.2 i a b).ints)
theorem RowJ.kp {B:Nat} {F M N:Nat→Prop} {W W':World} {v:Value} {l:List (List Int)} (h:RowJ B F M W v l) (hk:Rg.Kp N W W') (hF:∀ k,F k→¬ N k) (hN:∀ k,v.ownBlock=some k→¬ N k):RowJ B F M W' v l:=by
 obtain ⟨us,h1,h2⟩:=h.own;exact ⟨Nat.le_trans h.size hk.size,⟨us,rowKp h1 hk (fun k hn e=>hN k e hn),h2.kp hk hF⟩,h.off⟩
theorem RowJ.upk {B:Nat} {F M N:Nat→Prop} {W W':World} {v:Value} {l:List (List Int)} (h:RowJ B F M W v l) (hk:Rg.Kp N W W') (hF:∀ k,F k→¬ N k) (hN:∀ k,N k→M k):RowJ B (Fup F W W') M W' v l:=by
 obtain ⟨us,h1,h2⟩:=h.own;refine ⟨Nat.le_trans h.size hk.size,⟨us,rowKp h1 hk (fun k hn e=>(h.off k e).2 (hN k hn)),(h2.kp hk hF).mono fun k=>.inl⟩,fun k e=>⟨fun g=>?_,(h.off k e).2⟩⟩;have:=(h.lt k e).2
 rcases g with g | g
 ·exact (h.off k e).1 g
 ·omega
theorem RowJ.push {B:Nat} {F M:Nat→Prop} {W:World} {v:Value} {l:List (List Int)} (h:RowJ B F M W v l) {u:Value} {x:List Int} (hu:Rg.FI F W u x) (hs:∃ a m c,u=.slice a m c) (hF:∀ k,F k→k<W.heap.size) (hM:∀ k,M k→k<W.heap.size) (hn:l.length<1000000) (ty:TypeId) :
  ∃ a c X,(Builtin.append_ #[27,27] ty #[v,.slice (some ⟨W.heap.size,0,none⟩) 1 1]).run Tryz.prog (W.alloc (.cells #[u] 36))=.ok (.slice a (l.length+1) c) X∧RowJ B F M X (.slice a (l.length+1) c) (l++[x])∧Rg.Kp (fun k=>v.ownBlock=some k) W X:=by
 obtain ⟨us,h1,h2⟩:=h.own;obtain ⟨a0,m0,c0,rfl⟩:=hs;have hb:Below W.heap.size W (W.alloc (.cells #[.slice a0 m0 c0] 36)):=(Below.refl _ _).alloc (Nat.le_refl _) _;obtain ⟨v',X,r1,r2,r3,r4,a,c,rfl⟩:=app_run (P:=Tryz.prog) slIntss ty (Rg.row_below h1 hb) (Nat.le_trans h.size hb.size) W.heap.size 1 (u:=.slice a0 m0 c0) (by rw [Rg.cellNew]; rfl) rfl hn;have hk:Rg.Kp (fun k=>v.ownBlock=some k) W X:=Rg.Kp.trans (M:=fun k=>v.ownBlock=some k) ((Rg.Kp.of_below hb).weak fun _=>False.elim) (Rg.Kp.of_grown r3 fun _ e=>e) (fun _ _ e=>e);have hg:∀ k,F k→¬ v.ownBlock=some k:=fun k g e=>(h.off k e).1 g;refine ⟨a,c,X,r1,⟨Nat.le_trans h.size hk.size,⟨us++[.slice a0 m0 c0],by rw [List.length_append]; exact r2,FElts.snoc (h2.kp hk hg) (Rg.FI.kp hu hk hg)⟩,fun k e=>?_⟩,hk⟩
 rcases r4 with r4 | r4
 ·exact h.off k (by rw [← r4]; exact e)
 ·rw [r4] at e
  injection e with e
  have e2:(W.alloc (.cells #[.slice a0 m0 c0] 36)).heap.size=W.heap.size+1:=by simp
  exact ⟨fun g=>by have:=hF _ g; omega,fun g=>by have:=hM _ g; omega⟩
theorem RowJ.withM {B:Nat} {F M N:Nat→Prop} {W:World} {v:Value} {l:List (List Int)} (h:RowJ B F M W v l) (hN:∀ k,v.ownBlock=some k→¬ N k):RowJ B F N W v l:=⟨h.size,h.own,fun k e=>⟨(h.off k e).1,hN k e⟩⟩
theorem RowJ.at {B:Nat} {F M:Nat→Prop} {W:World} {v:Value} {l:List (List Int)} (h:RowJ B F M W v l) {i:Nat} (hi:i<l.length):∃ b c u,v=.slice (some ⟨b,0,none⟩) l.length c∧l.length≤c∧b<W.heap.size∧W.cell? ⟨b,i,none⟩=some u∧Rg.FI F W u l[i]:=by
 obtain ⟨us,h1,h2⟩:=h.own;obtain ⟨-,a,c,rfl,h3,h4,h5⟩:=Rg.own_elts h1 h2;obtain ⟨g,rfl,hg,hx⟩:=h5 (by omega);obtain ⟨u,hu1,hu2⟩:=hx i hi;exact ⟨g,c,u,rfl,h3,hg,hu1,hu2⟩
theorem RowJ.one {B:Nat} {F M:Nat→Prop} {W:World} {u:Value} {x:List Int} (hB:B≤W.heap.size) (hu:Rg.FI F W u x) (hs:∃ a m c,u=.slice a m c) (hF:∀ k,F k→k<W.heap.size) (hM:∀ k,M k→k<W.heap.size) :
  RowJ B F M (W.alloc (.cells #[u] 36)) (.slice (some ⟨W.heap.size,0,none⟩) 1 1) [x]:=by
 have hb:Below W.heap.size W (W.alloc (.cells #[u] 36)):=(Below.refl _ _).alloc (Nat.le_refl _) _;refine ⟨Nat.le_trans hB hb.size,⟨[u],⟨rfl,.inr ⟨W.heap.size,1,#[u],rfl,hB,by show (W.heap.push _)[W.heap.size]?=_; simp,Nat.le_refl _,by decide,rfl,rfl⟩⟩,?_⟩,fun k e=>?_⟩
 ·exact Rg.FElts.one (Rg.FI.kp hu (Rg.Kp.of_below hb) (fun _ _=>id))
 ·simp only [Value.ownBlock,Option.some.injEq] at e
  subst e;exact ⟨fun h=>Nat.lt_irrefl _ (hF _ h),fun h=>Nat.lt_irrefl _ (hM _ h)⟩
end Go.Proofs.YthehbckogieimaaGreat

namespace Go.Proofs.Km
open Go Go.RowKit
open Go.ChangeMaps
structure KT (P:Program) (t k e v:TypeId) (n:Nat) (z:Value):Prop where
 ht:P.underlying t=some (.map k v)
 hk:P.underlying k=some (.array n e)
 he:P.underlying e=some (.int .u8)
 hs:∀ w,(sizeOf e).run P w=.ok 1 w
 hz:∀ w,(zeroValue v).run P w=.ok z w
def keyV (l:List UInt8):Value:=.agg (l.map Go.Extern.Stop.cell).toArray
def KMap (w:World) (r:Nat) (m:List (List UInt8 × Value)):Prop :=
 ∃ es clock,w.heap[r]?=some (.map es clock)∧es.toList.map (fun e=>(e.key,e.val))=m.map (fun x=>(keyV x.1,x.2))
theorem KMap.lt {w:World} {r:Nat} {m:List (List UInt8 × Value)} (h:KMap w r m):r<w.heap.size:=by
 obtain ⟨es,c,h1,_⟩:=h; exact (Array.getElem?_eq_some_iff.1 h1).1
theorem KMap.of_block {w w':World} {r:Nat} {m:List (List UInt8 × Value)} (h:KMap w r m) (e:w'.heap[r]?=w.heap[r]?):KMap w' r m:=by
 obtain ⟨es,c,h1,h2⟩:=h; exact ⟨es,c,e.trans h1,h2⟩
theorem KMap.below {w w':World} {r:Nat} {m:List (List UInt8 × Value)} (h:KMap w r m) (hb:Below w.heap.size w w'):KMap w' r m:=h.of_block (hb.block r h.lt)
theorem KMap.grown {w w':World} {r:Nat} {m:List (List UInt8 × Value)} {k:Option Nat} (h:KMap w r m) (hg:w.grownBy w' k) (hne:some r≠k):KMap w' r m:=h.of_block (hg.block r h.lt hne)
theorem KMap.new (w:World):KMap (w.alloc (.map #[] 0)) w.heap.size []:=⟨#[],0,by unfold World.alloc; simp,rfl⟩
def look (m:List (List UInt8 × Value)) (k:List UInt8):Option Value:=(m.find? (fun x=>k == x.1)).map (·.2)
section
variable {P:Program} {t k e v:TypeId} {n:Nat} {z:Value}
theorem check_items (T:KT P t k e v n z) (em:Bool) (xs:List UInt8) (hx:xs.length=n) (w:World):(Instr.checkKey em 10000 k (keyV xs)).run P w=.ok () w:=by
 rw [show (10000:Nat)=9999+1 from rfl,keyV,Instr.checkKey];simp only [Sem.run_bind,run_underlying T.hk,Result.andThen_ok,Std.Legacy.Range.forIn_eq_forIn_range',Std.Legacy.Range.size,Nat.sub_zero,Nat.add_sub_cancel,Nat.div_one]
 have hl:∀ i∈List.range' 0 n 1,i<n:=fun i hi=>by simpa using (List.mem_range'_1.1 hi).2
 generalize List.range' 0 n 1=l at hl ⊢
 induction l with
 | nil=>simp
 | cons i l ih =>
  have hi:i<n:=hl i (by simp)
  have px:(part e (xs.map Go.Extern.Stop.cell).toArray (i*1)).run P w=.ok (Go.Extern.Stop.cell (xs.getD i 0)) w:=by
   simp [part,isAgg,run_underlying T.he,List.getD,List.getElem?_eq_getElem (show i<xs.length by omega)]
  have pc:(Instr.checkKey em 9999 e (Go.Extern.Stop.cell (xs.getD i 0))).run P w=.ok () w:=by
   rw [show (9999:Nat)=9998+1 from rfl,Instr.checkKey];simp [Sem.run_bind,run_underlying T.he,Go.Extern.Stop.cell]
  simp only [List.forIn_cons,Sem.run_bind,T.hs,px,pc,Result.andThen_ok,Sem.run_pure];exact ih fun j hj=>hl j (by simp [hj])
theorem ask_items (T:KT P t k e v n z) (w:World) (kb:List UInt8) (hk:kb.length=n):∀ (es:List MapEntry) (m:List (List UInt8 × Value)) (i:Nat),
  es.map (fun e=>(e.key,e.val))=m.map (fun x=>(keyV x.1,x.2))→(∀ x∈m,x.1.length=n) →
  ∃ r,(Instr.findAsking k (keyV kb) es i).run P w=.ok r w∧r.map (·.2)=look m kb
 | [],m,i,h,_=>by
  obtain rfl:m=[]:=by cases m; rfl; simp at h
  exact ⟨none,by simp [Instr.findAsking],rfl⟩
 | e0 :: es,m,i,h,hm=>by
  cases m with
  | nil=>simp at h
  | cons x m =>
   simp only [List.map_cons,List.cons.injEq,Prod.mk.injEq] at h;obtain ⟨⟨h1,h2⟩,h3⟩:=h;have hxl:=hm x (by simp)
   have pe:(Op.equal k (keyV kb) e0.key).run P w=.ok (kb == x.1) w:=by
    rw [h1,Op.equal,Op.maxDepth,keyV,keyV];exact run_equalIn_bytes w 9998 k e n T.hk T.he T.hs kb x.1 hk hxl
   obtain ⟨r,hr,hr2⟩:=ask_items T w kb hk es m (i+1) h3 (fun y hy=>hm y (by simp [hy]));rw [Instr.findAsking];simp only [Sem.run_bind,pe,Result.andThen_ok]
   cases hq:(kb == x.1)
   ·refine ⟨r,by simpa using hr,?_⟩
    rw [hr2]; simp [look,hq]
   ·refine ⟨some (i,e0.val),by simp,?_⟩
    simp [look,hq,h2]
theorem find_items (T:KT P t k e v n z) (w:World) (kb:List UInt8) (hk:kb.length=n) (es:List MapEntry) (m:List (List UInt8 × Value))
  (h:es.map (fun e=>(e.key,e.val))=m.map (fun x=>(keyV x.1,x.2))) (hm:∀ x∈m,x.1.length=n) :
  ∃ r,(Instr.findKey k (keyV kb) es).run P w=.ok r w∧r.map (·.2)=look m kb:=by
 unfold Instr.findKey;simp only [Sem.run_bind,run_underlying T.hk,Result.andThen_ok]
 cases es with
 | nil =>
  obtain rfl:m=[]:=by cases m; rfl; simp at h
  exact ⟨none,by simp [Instr.findNow],rfl⟩
 | cons e0 es =>
  have:Instr.findNow (.array n e) (keyV kb) (e0 :: es) 0=none:=by simp [Instr.findNow,Instr.sameNow]
  rw [this];exact ask_items T w kb hk _ m 0 h hm
theorem lookup_no (T:KT P t k e v n z) {w:World} {r:Nat} {m:List (List UInt8 × Value)} (h:KMap w r m) (hm:∀ x∈m,x.1.length=n) (kb:List UInt8) (hk:kb.length=n) :
  (Instr.lookup t (.map (some r)) (keyV kb) false).run P w=.ok ((look m kb).getD z) w:=by
 obtain ⟨es,c,h1,h2⟩:=h;obtain ⟨q,hq,hq2⟩:=find_items T w kb hk es.toList m h2 hm
 cases q with
 | none =>
  have:look m kb=none:=by rw [← hq2]; rfl
  simp [Instr.lookup,run_underlying T.ht,MapKept.run_getObj_map h1,check_items T _ kb hk,hq,T.hz,Result.andThen,this]
 | some x =>
  have:look m kb=some x.2:=by rw [← hq2]; rfl
  simp [Instr.lookup,run_underlying T.ht,MapKept.run_getObj_map h1,check_items T _ kb hk,hq,Result.andThen,this]
theorem update_new (T:KT P t k e v n z) {w:World} {r:Nat} {m:List (List UInt8 × Value)} (h:KMap w r m) (hm:∀ x∈m,x.1.length=n) (kb:List UInt8) (hk:kb.length=n) (hno:look m kb=none) (val:Value) :
  ∃ w',(Instr.mapUpdate t (.map (some r)) (keyV kb) val).run P w=.ok () w'∧KMap w' r (m++[(kb,val)])∧w.grownBy w' (some r):=by
 obtain ⟨es,c,h1,h2⟩:=h;obtain ⟨q,hq,hq2⟩:=find_items T w kb hk es.toList m h2 hm;rw [hno] at hq2
 have:q=none:=by cases q; rfl; simp at hq2
 subst this;refine ⟨setBlock w r (.map (es.push ⟨keyV kb,val,c⟩) (c+1)),?_,⟨_,_,heap_setBlock_same h1 _,?_⟩,⟨rfl,rfl,rfl,by simp [setBlock],fun i _ hi=>heap_setBlock_other h1 _ (fun e=>hi (by rw [e]))⟩⟩
 ·simp [Instr.mapUpdate,run_underlying T.ht,MapKept.run_getObj_map h1,check_items T _ kb hk,hq,MapKept.run_setObj_map _ h1,Result.andThen,setBlock]
 ·simp [h2]
end
end Go.Proofs.Km

namespace Go.Proofs.YthehbckogieimaaGreat
open Go.RowKit
open Go.Proofs
attribute [local irreducible] Go.Calls
def keyF (p:List Nat) (i:Nat):Value:=.int .u8 ((p.getD i 0:Nat):Int)
def keyC (p:List Nat):Array Value:=(Array.range 64).map (keyF p)
theorem size_keyC (p:List Nat):(keyC p).size=64:=by simp [keyC]
theorem get_keyC (p:List Nat) (i:Nat) (h:i<64):(keyC p)[i]?=some (keyF p i):=by simp [keyC,h]
theorem one_keyC (p:List Nat):(keyC p).all (·.oneCell')=true:=by
 refine Array.all_eq_true_iff_forall_mem.2 (fun v hv=>?_);obtain ⟨i,_,rfl⟩:=Array.mem_map.1 hv;rfl
theorem infoKey:(Tryz.prog.info? 105).map (·.size)=some 64:=by kernel_rfl
theorem keyRow {w:World} {b:Nat} {p:List Nat} {f:Nat→Value} (h:w.rowIs b 105 64 f) (hf:∀ i,i<64→f i=keyF p i):w.heap[b]?=some (.cells (keyC p) 105 (0,0)):=by
 obtain ⟨c,h1,h2,h3⟩:=h
 have:c=keyC p:=by
  apply Array.ext_getElem?
  intro i
  by_cases hi:i<64
  ·rw [get_keyC p i hi,← hf i hi]; exact h3 i hi
  ·rw [Array.getElem?_eq_none (by omega),Array.getElem?_eq_none (by rw [size_keyC]; omega)]
 rw [← this]; exact h1
def kb (p:List Nat):List UInt8:=(List.range 64).map fun i=>UInt8.ofNat (p.getD i 0)
theorem len_kb (p:List Nat):(kb p).length=64:=by simp [kb]
def GK (d:Nat) (p:List Nat):Prop:=p.length=d∧d≤64∧∀ x∈p,x<256
theorem GK.getD {d:Nat} {p:List Nat} (h:GK d p) (i:Nat):p.getD i 0<256:=by
 by_cases hi:i<p.length
 ·rw [Ma.getD_lt hi]; exact h.2.2 _ (List.getElem_mem hi)
 ·rw [List.getD_eq_getElem?_getD,List.getElem?_eq_none (by omega)]; decide
theorem keyC_kb {d:Nat} {p:List Nat} (h:GK d p):Value.agg (keyC p)=Km.keyV (kb p):=by
 unfold Km.keyV
 congr 1
 apply Array.ext_getElem?
 intro i
 by_cases hi:i<64
 ·rw [get_keyC p i hi]
  simp [kb,hi,keyF,Go.Extern.Stop.cell];have:=h.getD i;rw [List.getD_eq_getElem?_getD] at this;omega
 ·rw [Array.getElem?_eq_none (by rw [size_keyC]; omega),Array.getElem?_eq_none (by simp [kb]; omega)]
theorem kb_inj {d:Nat} {p q:List Nat} (hp:GK d p) (hq:GK d q) (h:kb p=kb q):p=q:=by
 apply List.ext_getElem (hp.1.trans hq.1.symm)
 intro i h1 h2
 have hi:i<64:=by have:=hp.1; have:=hp.2.1; omega
 have e:=congrArg (fun l=>l[i]?) h;simp only [kb,List.getElem?_map,List.getElem?_range hi,Option.map_some,Option.some.injEq] at e;have e2:=congrArg UInt8.toNat e;have g1:=hp.getD i; have g2:=hq.getD i;simp only [UInt8.toNat_ofNat',Nat.mod_eq_of_lt g1,Nat.mod_eq_of_lt g2] at e2
 rwa [Ma.getD_lt h1,Ma.getD_lt h2] at e2
theorem kb_beq {d:Nat} {p q:List Nat} (hp:GK d p) (hq:GK d q):(kb p == kb q)=(p == q):=by
 rw [Bool.eq_iff_iff,beq_iff_eq,beq_iff_eq];exact ⟨kb_inj hp hq,fun h=>by rw [h]⟩
theorem kt:Km.KT Tryz.prog 107 105 5 4 64 (.bool false) :=
 ⟨Tryz.underlying107,Tryz.underlying105,Tryz.underlying5,fun w=>by kernel_rfl,fun w=>by kernel_rfl⟩
def seenM (T:List (List Nat)):List (List UInt8 × Value):=T.map fun p=>(kb p,.bool true)
theorem len_seenM (T:List (List Nat)):∀ x∈seenM T,x.1.length=64:=fun x hx=>by
 obtain ⟨y,_,rfl⟩:=List.mem_map.1 hx;exact len_kb _
theorem look_seenM {d:Nat} {p:List Nat} (hp:GK d p):∀ {T:List (List Nat)},(∀ q∈T,GK d q)→Km.look (seenM T) (kb p)=if p∈T then some (.bool true) else none
 | [],_=>by simp [seenM,Km.look]
 | x :: T,h=>by
  have ih:=look_seenM hp (T:=T) (fun y hy=>h y (by simp [hy]));have hx:=h x (by simp);unfold Km.look seenM at *;rw [List.map_cons,List.find?_cons];simp only [kb_beq hp hx]
  cases hb:(p == x)
  ·rw [ih]
   have hne:p≠x:=by simpa using hb
   simp [List.mem_cons,hne]
  ·have he:p=x:=by simpa using hb
   simp [he]
end Go.Proofs.YthehbckogieimaaGreat

namespace Go.Proofs
open Go.Shelf
def Tryz.laysSlF6_f91_ren:Go.Shelf.Ren:=⟨fun | 6=>91 | 15=>174 | 14=>173 | 28=>253 | 29=>254 | 20=>245 | 21=>246 | 22=>247 | 23=>248 | 24=>249 | 25=>250 | 26=>251 | 27=>252 | 46=>302 | 47=>303 | 48=>304 | 49=>305 | 50=>306 | 57=>319 | n=>n,fun | 22=>27 | 24=>36 | 25=>110 | 3=>3 | 39=>185 | 0=>0 | 53=>259 | 55=>261 | 4=>4 | 46=>253 | 45=>252 | 50=>121 | 5=>5 | 9=>9 | 66=>293 | 70=>297 | 76=>307 | 77=>308 | n=>n,fun | n=>n⟩
theorem Tryz.laysSlF6_f91:Go.Proofs.SlLaysF.n6 Tryz.prog Tryz.laysSlF6_f91_ren:={
 mixed:=by kernel_rfl
 f6:=⟨Tryz.f91.name,by decide,Tryz.func91.trans (congrArg some (by kernel_rfl))⟩
 f14:=⟨Tryz.f173.name,by decide,Tryz.func173.trans (congrArg some (by kernel_rfl))⟩
 f15:=Tryz.func174.trans (congrArg some (by kernel_rfl))
 f20:=⟨Tryz.f245.name,by decide,Tryz.func245.trans (congrArg some (by kernel_rfl))⟩
 f21:=⟨Tryz.f246.name,by decide,Tryz.func246.trans (congrArg some (by kernel_rfl))⟩
 f22:=⟨Tryz.f247.name,by decide,Tryz.func247.trans (congrArg some (by kernel_rfl))⟩
 f23:=⟨Tryz.f248.name,by decide,Tryz.func248.trans (congrArg some (by kernel_rfl))⟩
 f24:=⟨Tryz.f249.name,by decide,Tryz.func249.trans (congrArg some (by kernel_rfl))⟩
 f25:=⟨Tryz.f250.name,by decide,Tryz.func250.trans (congrArg some (by kernel_rfl))⟩
 f26:=⟨Tryz.f251.name,by decide,Tryz.func251.trans (congrArg some (by kernel_rfl))⟩
 f27:=⟨Tryz.f252.name,by decide,Tryz.func252.trans (congrArg some (by kernel_rfl))⟩
 f28:=Tryz.func253.trans (congrArg some (by kernel_rfl))
 f29:=Tryz.func254.trans (congrArg some (by kernel_rfl))
 f46:=⟨Tryz.f302.name,by decide,Tryz.func302.trans (congrArg some (by kernel_rfl))⟩
 f47:=Tryz.func303.trans (congrArg some (by kernel_rfl))
 f48:=Tryz.func304.trans (congrArg some (by kernel_rfl))
 f49:=⟨Tryz.f305.name,by decide,Tryz.func305.trans (congrArg some (by kernel_rfl))⟩
 f50:=⟨Tryz.f306.name,by decide,Tryz.func306.trans (congrArg some (by kernel_rfl))⟩
 f57:=⟨Tryz.f319.name,by decide,Tryz.func319.trans (congrArg some (by kernel_rfl))⟩
 t0:=Tryz.underlying0
 a0:=Tryz.isAgg0
 z0:=Tryz.sizeOf0
 v0:=Tryz.zeroValue0
 t3:=Tryz.underlying3
 a3:=Tryz.isAgg3
 z3:=Tryz.sizeOf3
 v3:=Tryz.zeroValue3
 t4:=Tryz.underlying4
 a4:=Tryz.isAgg4
 z4:=Tryz.sizeOf4
 v4:=Tryz.zeroValue4
 t5:=Tryz.underlying5
 a5:=Tryz.isAgg5
 z5:=Tryz.sizeOf5
 v5:=Tryz.zeroValue5
 t9:=Tryz.underlying9
 a9:=Tryz.isAgg9
 z9:=Tryz.sizeOf9
 v9:=Tryz.zeroValue9
 t22:=Tryz.underlying27
 a22:=Tryz.isAgg27
 z22:=Tryz.sizeOf27
 v22:=Tryz.zeroValue27
 a24:=Tryz.isAgg36
 z24:=Tryz.sizeOf36
 t25:=Tryz.underlying110
 a25:=Tryz.isAgg110
 z25:=Tryz.sizeOf110
 v25:=Tryz.zeroValue110
 t39:=Tryz.underlying185
 a39:=Tryz.isAgg185
 z39:=Tryz.sizeOf185
 v39:=Tryz.zeroValue185
 t45:=Tryz.underlying252
 a45:=Tryz.isAgg252
 z45:=Tryz.sizeOf252
 v45:=Tryz.zeroValue252
 t46:=Tryz.underlying253
 a46:=Tryz.isAgg253
 z46:=Tryz.sizeOf253
 v46:=Tryz.zeroValue253
 t50:=Tryz.underlying121
 a50:=Tryz.isAgg121
 z50:=Tryz.sizeOf121
 v50:=Tryz.zeroValue121
 t53:=Tryz.underlying259
 a53:=Tryz.isAgg259
 z53:=Tryz.sizeOf259
 v53:=Tryz.zeroValue259
 t55:=Tryz.underlying261
 a55:=Tryz.isAgg261
 z55:=Tryz.sizeOf261
 v55:=Tryz.zeroValue261
 t66:=Tryz.underlying293
 a66:=Tryz.isAgg293
 z66:=Tryz.sizeOf293
 v66:=Tryz.zeroValue293
 t70:=Tryz.underlying297
 a70:=Tryz.isAgg297
 z70:=Tryz.sizeOf297
 v70:=Tryz.zeroValue297
 t76:=Tryz.underlying307
 a76:=Tryz.isAgg307
 z76:=Tryz.sizeOf307
 v76:=Tryz.zeroValue307
 t77:=Tryz.underlying308
 a77:=Tryz.isAgg308
 z77:=Tryz.sizeOf308
 v77:=Tryz.zeroValue308 }
open Go.RowKit Go.Lib Go.Sort in
theorem Tryz.slices_SortFunc {α:Type} [Inhabited α] (enc:α→Value) (h1:OneCell enc) (cf:α→α→Int) (hO:SWO (ltOf cf)) (g:Nat) (cb:Array Value) (blk off cap:Nat) (d:Array α) (w:World) (eg:∀ args w,(callFunc g args).run Tryz.prog w=.ok (.enter g args) w) (hcmp:CmpLays1 Tryz.prog g cb enc cf blk off d.size w) (hH:Holds enc w blk off d) (hblk:blk<w.heap.size) (hsz:d.size<4611686018427387904) :
  Calls Tryz.prog 91 #[.slice (some ⟨blk,off,none⟩) d.size cap,.func (.func g) #[] cb] w fun e w' =>
   e=.returned (.tuple #[])∧∃ d' n os,PermIn 0 d.size d d'∧SortedIn (ltOf cf) 0 d.size d'∧w'=sortWorld enc w blk off n d' os:=Any.slices_SortFunc Tryz.laysSlF6_f91 enc h1 cf hO g cb blk off cap d w eg hcmp hH hblk hsz
end Go.Proofs

namespace Go.Proofs.YthehbckogieimaaGreat
open Go.RowKit
open Go.Proofs
open Go.Sort
attribute [local irreducible] Go.Calls
def El (F:Nat→Prop) (w:World):={ p:Value × List Int // Rg.FI F w p.1 p.2 }
theorem fi_nil (F:Nat→Prop) (w:World):Rg.FI F w (.slice none 0 0) []:=⟨none,0,rfl,Nat.le_refl _,Nat.zero_le _,Nat.zero_le _,fun h=>absurd h (Nat.lt_irrefl 0)⟩
instance (F:Nat→Prop) (w:World):Inhabited (El F w):=⟨⟨(.slice none 0 0,[]),fi_nil F w⟩⟩
def elV {F:Nat→Prop} {w:World} (p:El F w):Value:=p.1.1
def elC {F:Nat→Prop} {w:World} (p q:El F w):Int:=cmpL p.1.2 q.1.2
theorem elC_lt {F:Nat→Prop} {w:World} (p q:El F w):ltOf elC p q=lessL p.1.2 q.1.2:=cmpL_lt _ _
theorem lessL_n {a b c:List Int} (h:lessL a b=false) (h2:lessL b c=false):lessL a c=false:=by
 by_cases e:a=b
 ·subst e; exact h2
 ·by_cases e2:b=c
  ·subst e2; exact h
  ·have h3:=lessL_trans (lessL_total h2 e2) (lessL_total h e)
   cases h4:lessL a c
   ·rfl
   ·have:=lessL_trans h3 h4
    rw [lessL_irr] at this; cases this
theorem el_swo (F:Nat→Prop) (w:World):SWO (ltOf (elC (F:=F) (w:=w))) where
 irrefl x:=by rw [elC_lt]; exact lessL_irr _
 trans x y z h1 h2:=by rw [elC_lt] at *; exact lessL_trans h1 h2
 ntrans x y z h1 h2:=by rw [elC_lt] at *; exact lessL_n h1 h2
theorem sortWorld_kp {α:Type} [Inhabited α] {enc:α→Value} {w:World} {blk m:Nat} {dk:Array α} {os:Array Obj}:Rg.Kp (fun z=>z=blk) w (sortWorld enc w blk 0 m dk os):=by
 refine ⟨rfl,rfl,rfl,by simp [sortWorld,grow,putRow,mapBlock,Sort.ahead],fun k hk hn=>?_⟩;unfold sortWorld;rw [heap_grow_old _ _ (by simpa [putRow,mapBlock,Sort.ahead] using hk)];have:blk≠k:=fun e=>hn e.symm;simp [putRow,mapBlock,Sort.ahead,Array.getElem?_modify,this]
theorem clCmp (args:Array Value) (w:World):(callFunc 90 args).run Tryz.prog w=.ok (.enter 90 args) w:=by kernel_rfl
theorem sortLL {F:Nat→Prop} {w:World} {blk cap:Nat} {us:List Value} {ll:List (List Int)} (hus:Rg.FElts F w us ll) (hF:¬ F blk) (hc:∀ i (h:i<us.length),w.cell? ⟨blk,i,none⟩=some us[i]∧w.frozen? ⟨blk,i,none⟩=false) (hlt:blk<w.heap.size) (hn:ll.length≤1000000) (hcap:ll.length≤cap) (hcm:cap≤maxLen) :
  Calls Tryz.prog 91 #[.slice (some ⟨blk,0,none⟩) ll.length cap,.func (.func 90) #[] #[]] w fun e w'=>e=.returned (.tuple #[])∧∃ ll',ll'.Perm ll∧ll'.Pairwise (fun a b=>lessL b a=false)∧Rg.Rows w' (.slice (some ⟨blk,0,none⟩) ll.length cap) ll'∧Rg.Kp (fun z=>z=blk) w w':=by
 obtain ⟨d,hd,hde⟩:∃ d:Array (El F w),d.size=ll.length∧∀ i (h:i<d.size) (h2:i<us.length) (h3:i<ll.length),d[i].1=(us[i],ll[i]) :=
  by
   obtain ⟨hl,he⟩:=hus;exact ⟨Array.ofFn (n:=ll.length) fun i=>⟨(us[i.1]'(by rw [hl]; exact i.2),ll[i.1]),he i.1 _ _⟩,Array.size_ofFn,fun i h h2 h3=>congrArg Subtype.val (Array.getElem_ofFn h)⟩
 have hH:Holds elV w blk 0 d:=fun j hj=>by
  have hj2:j<us.length:=by rw [hus.1,← hd]; exact hj
  rw [Nat.zero_add,getElem!_pos d j hj]
  have e:elV d[j]=us[j]:=by unfold elV; rw [hde j hj hj2 (by omega)]
  rw [e];exact hc j hj2
 have hcmp:CmpLays1 Tryz.prog 90 #[] elV elC blk 0 d.size w:=fun m os dk _ x y=>by
  have hk:=sortWorld_kp (enc:=elV) (w:=w) (blk:=blk) (m:=m) (dk:=dk) (os:=os);have hx:=(Rg.FI.kp x.2 hk (fun z hz e=>hF (e▸hz))).ints;have hy:=(Rg.FI.kp y.2 hk (fun z hz e=>hF (e▸hz))).ints;refine (Compare_any _ _ x.1.2 y.1.2 _ hx hy).mono ?_;rintro e w' ⟨h1,h2⟩;exact ⟨h1,0,#[],by rw [h2,grow_empty]; rfl⟩
 have hs:=Tryz.slices_SortFunc elV (fun x=>by obtain ⟨a,c,h,_⟩:=x.2; show x.1.1.oneCell'=true; rw [h]; rfl) elC (el_swo F w) 90 #[] blk 0 cap d w clCmp hcmp hH hlt (by rw [hd]; omega);rw [hd] at hs;refine hs.mono ?_;rintro e w' ⟨rfl,d',m,os,hp,hso,rfl⟩;have hk:=sortWorld_kp (enc:=elV) (w:=w) (blk:=blk) (m:=m) (dk:=d') (os:=os)
 have hd':d'.size=ll.length:=by rw [hp.1,hd]
 have hx1:d'.extract 0 ll.length=d':=by rw [← hd']; simp
 have hx2:d.extract 0 ll.length=d:=by rw [← hd]; simp
 have hh:=SW.holds (W:=sortWorld elV w blk 0 m d' os) ⟨m,os,rfl⟩ hlt hH (by rw [hd',hd]);refine ⟨rfl,d'.toList.map (·.1.2),?_,?_,?_,hk⟩
 ·have h1:=hp.2.2
  rw [hx1,hx2] at h1;have h2:=h1.map (fun p:El F w=>p.1.2)
  have e:d.toList.map (fun p:El F w=>p.1.2)=ll:=by
   apply List.ext_getElem
   ·simp [hd]
   ·intro i h1 h2
    have h3:i<d.size:=by simpa using h1
    rw [List.getElem_map,Array.getElem_toList,hde i h3 (by rw [hus.1]; exact h2) h2]
  rwa [e] at h2
 ·rw [List.pairwise_iff_getElem]
  intro i j hi hj hij;simp only [List.length_map,Array.length_toList] at hi hj;have:=hso i j (Nat.zero_le _) hij (by rw [← hd']; exact hj);rw [elC_lt,getElem!_pos d' j hj,getElem!_pos d' i hi] at this
  simpa using this
 ·refine ⟨d'.toList.map (·.1.1),⟨some ⟨blk,0,none⟩,cap,by simp [hd'],by simp [hd']; exact hcap,hcm,by simp [hd',Rg.big]; omega,fun _=>⟨blk,0,rfl,Nat.lt_of_lt_of_le hlt hk.size,fun i hi=>?_⟩⟩,by simp,fun i h1 h2=>?_⟩
  ·have hi2:i<d'.size:=by simpa using hi
   have:=(hh i hi2).1;rw [this,getElem!_pos d' i hi2];simp [elV]
  ·have hi2:i<d'.size:=by simpa using h1
   have:=(Rg.FI.kp (d'[i]).2 hk (fun z hz e=>hF (e▸hz))).ints;simp only [List.getElem_map,Array.getElem_toList];exact this
end Go.Proofs.YthehbckogieimaaGreat

namespace Go.Proofs.YthehbckogieimaaGreat
open Go.RowKit
open Go.Proofs
open Go.Proofs.Ob
open Go.Proofs.Cm (Gd)
attribute [local irreducible] Go.Calls Go.wpList
theorem ChAns.zero {w:World} {d:Int} {ll:List (List Int)} {cv:Value} {c:Int} (h:ChAns w d ll cv c) (hc:c≠0):cv=zeroC:=by
 rcases h with ⟨_,h⟩ | ⟨h,_⟩
 ·exact h
 ·exact absurd h hc
end Go.Proofs.YthehbckogieimaaGreat

namespace Go.Proofs.YthehbckogieimaaGreat
open Go.RowKit
open Go.Proofs
open Go.Proofs.Ob
open Go.Proofs.Cm (Gd Gr IsChain)
attribute [local irreducible] Go.Calls Go.wpList
theorem exec_eqB {o:Oper} {a:Act} {w:World} (x y:Operand) (ho:o.op=.binOp .eql 4 x y 4) {s:Bool} (hx:a.eval x=.bool s) (hy:a.eval y=.bool s):(execOp a.eval o).run Tryz.prog w=.ok (.value (.bool true)) w:=by
 unfold execOp;simp only [ho,hx,hy]
 cases s <;> kernel_rfl

structure C4 (W:World) (b1 o1 b2 o2 b3 o3 b4 o4:Nat) (v1 v2 v3 v4:Value):Prop where
 c1:W.cell? ⟨b1,o1,none⟩=some v1
 c2:W.cell? ⟨b2,o2,none⟩=some v2
 c3:W.cell? ⟨b3,o3,none⟩=some v3
 c4:W.cell? ⟨b4,o4,none⟩=some v4
theorem cell_below {W X:World} {b o:Nat} {u:Value} (h:W.cell? ⟨b,o,none⟩=some u) (hb:Below W.heap.size W X):X.cell? ⟨b,o,none⟩=some u:=(Below.cell (p:=⟨b,o,none⟩) hb (lt_of_cell h)).trans h
theorem C4.below {W X:World} {b1 o1 b2 o2 b3 o3 b4 o4:Nat} {v1 v2 v3 v4:Value} (h:C4 W b1 o1 b2 o2 b3 o3 b4 o4 v1 v2 v3 v4) (hb:Below W.heap.size W X):C4 X b1 o1 b2 o2 b3 o3 b4 o4 v1 v2 v3 v4 :=
 ⟨cell_below h.c1 hb,cell_below h.c2 hb,cell_below h.c3 hb,cell_below h.c4 hb⟩
theorem C4.kp {M:Nat→Prop} {W X:World} {b1 o1 b2 o2 b3 o3 b4 o4:Nat} {v1 v2 v3 v4:Value} (h:C4 W b1 o1 b2 o2 b3 o3 b4 o4 v1 v2 v3 v4) (hk:Rg.Kp M W X) (n1:¬ M b1) (n2:¬ M b2) (n3:¬ M b3) (n4:¬ M b4):C4 X b1 o1 b2 o2 b3 o3 b4 o4 v1 v2 v3 v4 :=
 ⟨cell_kp h.c1 hk n1,cell_kp h.c2 hk n2,cell_kp h.c3 hk n3,cell_kp h.c4 hk n4⟩
structure NpW (w:World) (v:Value) (x:List Nat):Prop where
 np:Rg.NP w v x
theorem NpW.below {w w':World} {v:Value} {x:List Nat} (h:NpW w v x) (hb:Below w.heap.size w w'):NpW w' v x:=⟨Rg.NP.below h.np hb⟩
end Go.Proofs.YthehbckogieimaaGreat

namespace Go.Proofs.YthehbckogieimaaGreat
open Go.RowKit
open Go.Proofs
open Go.Proofs.Ob
open Go.Proofs.Cm (Gd Gr)
attribute [local irreducible] Go.Calls Go.wpList
theorem put_seen {W:World} {r d:Nat} {T:List (List Nat)} {x:List Nat} (h:Km.KMap W r (seenM T)) (hg:∀ q∈T,GK d q) (hx:GK d x) (hn:x∉T) :
  ∃ X,(Instr.mapUpdate 107 (.map (some r)) (.agg (keyC x)) (.bool true)).run Tryz.prog W=.ok () X∧Km.KMap X r (seenM (T++[x]))∧W.grownBy X (some r):=by
 rw [keyC_kb hx];obtain ⟨X,h1,h2,h3⟩:=Km.update_new kt h (len_seenM T) (kb x) (len_kb x) (by rw [look_seenM hx hg,if_neg hn]) (.bool true);exact ⟨X,h1,by unfold seenM at h2 ⊢; rw [List.map_append]; exact h2,h3⟩
theorem look_run {W:World} {r d:Nat} {T:List (List Nat)} {x:List Nat} (h:Km.KMap W r (seenM T)) (hg:∀ q∈T,GK d q) (hx:GK d x) :
  (Instr.lookup 107 (.map (some r)) (.agg (keyC x)) false).run Tryz.prog W=.ok (.bool (decide (x∈T))) W:=by
 rw [keyC_kb hx];have h1:=Km.lookup_no kt h (len_seenM T) (kb x) (len_kb x);rw [look_seenM hx hg] at h1
 by_cases e:x∈T
 ·rw [if_pos e] at h1; rw [decide_eq_true e]; exact h1
 ·rw [if_neg e] at h1; rw [decide_eq_false e]; exact h1
structure SpM (w W:World) (F:Nat→Prop) (r:Nat) (fv:Value) (T:List (List Nat)):Prop where
 bel:Below w.heap.size w W
 row:RowJ w.heap.size F (fun z=>z=r) W fv (T.map Ma.ofN)
 mp:Km.KMap W r (seenM T)
 rlo:w.heap.size≤r
 nF:¬ F r
 Flt:∀ z,F z→z<W.heap.size
theorem SpM.up {w W W':World} {F:Nat→Prop} {r:Nat} {fv:Value} {T:List (List Nat)} (h:SpM w W F r fv T) (hb:Below W.heap.size W W'):SpM w W' (Fup F W W') r fv T :=
 ⟨Rg.acc h.bel hb,h.row.upk (N:=fun _=>False) (Rg.Kp.of_below hb) (fun _ _=>id) (fun _ e=>e.elim),h.mp.below hb,h.rlo,fun g=>by
  rcases g with g | g
  ·exact h.nF g
  ·have:=h.mp.lt; omega,fun z g=>by
  rcases g with g | g
  ·exact Nat.lt_of_lt_of_le (h.Flt z g) hb.size
  ·exact g.2⟩
theorem SpM.put {w W:World} {F:Nat→Prop} {r d:Nat} {fv u:Value} {T:List (List Nat)} {x:List Nat} (h:SpM w W F r fv T) (hg:∀ q∈T,GK d q) (hx:GK d x) (hn:x∉T) (hu:Rg.FI F W u (Ma.ofN x)) (hs:∃ a m c,u=.slice a m c) (hT:T.length<1000000) (ty:TypeId) :
  ∃ X,(Instr.mapUpdate 107 (.map (some r)) (.agg (keyC x)) (.bool true)).run Tryz.prog W=.ok () X ∧
   ∃ a c Y,(Builtin.append_ #[27,27] ty #[fv,.slice (some ⟨X.heap.size,0,none⟩) 1 1]).run Tryz.prog (X.alloc (.cells #[u] 36))=.ok (.slice a (T.length+1) c) Y∧SpM w Y F r (.slice a (T.length+1) c) (T++[x]):=by
 obtain ⟨X,h1,h2,h3⟩:=put_seen h.mp hg hx hn;have hk:Rg.Kp (fun z=>z=r) W X:=Rg.Kp.of_grown h3 (fun k e=>(Option.some.inj e).symm);have hrow:=h.row.kp hk (fun k hF e=>h.nF (e▸hF)) (fun k e e2=>(h.row.off k e).2 e2);have hu2:=Rg.FI.kp hu hk (fun z hF e=>h.nF (e▸hF));obtain ⟨a,c,Y,r1,r2,r3⟩:=hrow.push hu2 hs (fun k g=>Nat.lt_of_lt_of_le (h.Flt k g) hk.size) (fun k e=>by subst e; exact h2.lt) (by rw [List.length_map]; exact hT) ty;rw [List.length_map] at r1 r2;refine ⟨X,h1,a,c,Y,r1,⟨?_,by rw [List.map_append]; exact r2,?_,h.rlo,h.nF,fun z g=>Nat.lt_of_lt_of_le (h.Flt z g) (Nat.le_trans hk.size r3.size)⟩⟩
 ·exact kp_below (kp_below h.bel h.bel.size hk (fun k e=>by subst e; exact h.rlo)) (Nat.le_trans h.bel.size hk.size) r3 (fun k e=>(hrow.lt k e).1)
 ·exact h2.of_block (r3.block r h2.lt (fun e=>(hrow.off r e).2 rfl))
structure KmW (w:World) (r:Nat) (T:List (List Nat)):Prop where
 m:Km.KMap w r (seenM T)
theorem KmW.below {w w':World} {r:Nat} {T:List (List Nat)} (h:KmW w r T) (hb:Below w.heap.size w w'):KmW w' r T:=⟨h.m.below hb⟩
structure FiW (F:Nat→Prop) (w:World) (v:Value) (x:List Nat):Prop where
 fi:Rg.FI F w v (Ma.ofN x)
theorem FiW.up {F:Nat→Prop} {w w':World} {v:Value} {x:List Nat} (h:FiW F w v x) (hb:Below w.heap.size w w'):FiW (Fup F w w') w' v x :=
 ⟨Rg.FI.mono (Rg.FI.kp (M:=fun _=>False) h.fi (Rg.Kp.of_below hb) (fun _ _=>id)) (fun _=>.inl)⟩
theorem SpM.start {w W:World} {u:Value} {x:List Nat} (hb:Below w.heap.size w W) (hm:Km.KMap W w.heap.size (seenM ([]++[x]))) (hu:Rg.NP w u x) (hs:∃ a m c,u=.slice a m c):SpM w (W.alloc (.cells #[u] 36)) (fun z=>z<w.heap.size) w.heap.size (.slice (some ⟨W.heap.size,0,none⟩) 1 1) [x]:=by
 have hfi:Rg.FI (fun z=>z<w.heap.size) W u (Ma.ofN x):=Rg.FI.kp (M:=fun _=>False) (Rg.FI.old hu) (Rg.Kp.of_below hb) (fun _ _=>id);have hbA:Below W.heap.size W (W.alloc (.cells #[u] 36)):=(Below.refl _ _).alloc (Nat.le_refl _) _;exact ⟨hb.alloc hb.size _,RowJ.one hb.size hfi hs (fun k hk=>Nat.lt_of_lt_of_le hk hb.size) (fun k e=>by subst e; exact hm.lt),by simpa using hm.below hbA,Nat.le_refl _,Nat.lt_irrefl _,fun z hz=>Nat.lt_of_lt_of_le hz (Nat.le_trans hb.size hbA.size)⟩

theorem toN1 (x:List Nat):(Ma.ofN x).map Int.toNat=x:=by
 unfold Ma.ofN;rw [List.map_map];exact (List.map_congr_left (fun _ _=>rfl)).trans (List.map_id x)
def AscL (T:List (List Nat)):Prop:=(T.map Ma.ofN).Pairwise fun a b=>lessL b a=false
theorem ofN_toNat {T:List (List Nat)} {z:List Int} (h:z∈T.map Ma.ofN):Ma.ofN (z.map Int.toNat)=z:=by
 obtain ⟨x,_,rfl⟩:=List.mem_map.1 h;rw [toN1]
theorem perm_back {T:List (List Nat)} {ll:List (List Int)} (h:ll.Perm (T.map Ma.ofN)):∃ T':List (List Nat),ll=T'.map Ma.ofN∧T'.Perm T:=by
 refine ⟨ll.map fun z=>z.map Int.toNat,?_,?_⟩
 ·rw [List.map_map]
  have e:ll.map id=ll.map (Ma.ofN ∘ fun z=>z.map Int.toNat):=by
   apply List.map_congr_left
   intro z hz;exact (ofN_toNat (h.mem_iff.1 hz)).symm
  rw [← e,List.map_id]
 ·have h2:=h.map fun z=>z.map Int.toNat
  have e:(T.map Ma.ofN).map (fun z=>z.map Int.toNat)=T:=by
   rw [List.map_map]
   have e:T.map (((fun z:List Int=>z.map Int.toNat)) ∘ Ma.ofN)=T.map id:=by
    apply List.map_congr_left
    intro x _;exact toN1 x
   rw [e,List.map_id]
  rw [e] at h2;exact h2

theorem exec_sliceHiL {o:Oper} {a:Act} {w:World} {v r:Value} {k:Nat} (x y:Operand) (ho:o.op=.slice 27 x none (some y) none) (hx:a.eval x=v) (hy:a.eval y=.int .i64 (k:Int)) (hr:(Instr.sliceAt 27 v none (some (.int .i64 (k:Int))) none).run Tryz.prog w=.ok r w) :
  (execOp a.eval o).run Tryz.prog w=.ok (.value r) w:=by
 unfold execOp;simp only [ho,hx,hy,Sem.run_bind,Sem.run_pure,Option.map]
 first | (rw [hr]; rfl) | (erw [hr]; rfl) | simp [hr]
theorem exec_sliceLoL {o:Oper} {a:Act} {w:World} {v r:Value} {k:Nat} (x y:Operand) (ho:o.op=.slice 27 x (some y) none none) (hx:a.eval x=v) (hy:a.eval y=.int .i64 (k:Int)) (hr:(Instr.sliceAt 27 v (some (.int .i64 (k:Int))) none none).run Tryz.prog w=.ok r w) :
  (execOp a.eval o).run Tryz.prog w=.ok (.value r) w:=by
 unfold execOp;simp only [ho,hx,hy,Sem.run_bind,Sem.run_pure,Option.map]
 first | (rw [hr]; rfl) | (erw [hr]; rfl) | simp [hr]
theorem lessL_same {a b:List Int} {k:Nat} (h:∀ j (h:j<a.length) (h2:j<b.length),j<k→a[j]=b[j]) (hk:k≤a.length) (hk2:k≤b.length):lessL a b=lessL (a.drop k) (b.drop k):=by
 induction k with
 | zero=>rfl
 | succ k ih =>
  rw [ih (fun j h1 h2 h3=>h j h1 h2 (by omega)) (by omega) (by omega),lessL_drop (by omega) (by omega),if_pos (h k (by omega) (by omega) (by omega))]

theorem rows_get {w:World} {a:Option Addr} {n c:Nat} {T:List (List Int)} (h:Rg.Rows w (.slice a n c) T) {i:Nat} (hi:i<T.length):∃ b o ua uc,a=some ⟨b,o,none⟩∧b<w.heap.size∧w.cell? ⟨b,o+i,none⟩=some (.slice ua T[i].length uc)∧Rg.Ints w (.slice ua T[i].length uc) T[i]:=by
 obtain ⟨a',c',e,-,-,-,hx⟩:=h.shape;simp only [Value.slice.injEq] at e;obtain ⟨rfl,rfl,rfl⟩:=e;obtain ⟨b,o,e1,e2,e3⟩:=hx (by omega);obtain ⟨u,h1,h2⟩:=e3 i hi;obtain ⟨ua,uc,e4,-⟩:=Rg.Ints.shape h2;subst e4;exact ⟨b,o,ua,uc,e1,e2,h1,h2⟩
theorem ints_get {w:World} {a:Option Addr} {n c:Nat} {l:List Int} (h:Rg.Ints w (.slice a n c) l) {k:Nat} (hk:k<l.length):∃ b o,a=some ⟨b,o,none⟩∧b<w.heap.size∧w.cell? ⟨b,o+k,none⟩=some (.int .i64 l[k]):=by
 obtain ⟨a',c',e,-,-,-,hx⟩:=h.shape;simp only [Value.slice.injEq] at e;obtain ⟨rfl,rfl,rfl⟩:=e;obtain ⟨b,o,e1,e2,e3⟩:=hx (by omega);exact ⟨b,o,e1,e2,e3 k hk⟩
variable {gs:List (List Nat)} {D:Nat} {O:List (List Int)} {cls:Nat→Nat}
end Go.Proofs.YthehbckogieimaaGreat

namespace Go.Proofs.YthehbckogieimaaGreat
open Go.Proofs
open Go.Proofs.Ob
open Go.Proofs.Cm (Gr IsChain IsG St Fx ap Lst allL)
def uq (gs:List (List Nat)) (D p q:Nat):List Nat:=wprod gs D (wd (tree gs D p) q)
end Go.Proofs.YthehbckogieimaaGreat
